/- The walk of DecidersSure: it returns true and changes nothing that was there; no condition. -/
import Derived.Test.YtkdiejbpleojnaaGreatDoorDecActOps
import Derived.Deep.QuietTactic
import Derived.BigQuiet
import Derived.Deep.LoopGhost
namespace Go.Proofs.YtkdiejbpleojnaaGreatDoor
open Go.RowKit Go.Sl
attribute [local go_sem] cell_of cellAt_of frozen_of zero_names Act19V.at0 Act19V.at1 Act19V.at18 Act19V.at19
theorem at_view {P : Program} {f : FuncId} {args : Array Value} {Z X R : Asn} {w0 : World} {r : Ending} (call : ∀ (F : Asn) (u : World), Mod u w0 (Z * F) → Calls P f args u fun e u' => e = r ∧ Mod u' w0 (Z * F)) (h : X = Z * R) : ∀ u, Mod u w0 X → Calls P f args u fun e u' => e = r ∧ Mod u' w0 X := by subst h; exact call R
theorem n8_of {l : List Nat} {i : Nat} (h : i < l.length) : (n8s l)[i]? = some (vu8 (l.getD i 0)) := by rw [List.getD_eq_getElem?_getD]; simp [h]
set_option maxRecDepth 4000 in
set_option maxHeartbeats 4000000 in
theorem decidersSure_run (A1 : Option Addr) (n1 c1 : Nat) (acts : List Act19V) (keep : Nat) (names : Bool) (w w0 : World) (S : Asn) [m : Mod w w0 S] (r1 : ReadsActs19 S A1 n1 acts) (hk : keep < 65536) (hgr : ∀ u, Mod u w0 S → Calls Tryz.prog 47 #[.slice A1 n1 c1] u fun e w' => GreatSays n1 e ∧ Mod w' w0 S) :
    Calls Tryz.prog 6 #[.slice A1 n1 c1, .int .u16 (keep : Int), .bool names] w fun e w' => e = .returned (.bool true) ∧ Mod w' w0 S := by
  have Hgr := Lib.hid hgr
  have Hr := Lib.hid r1
  clear hgr r1
  go_enter Tryz.func6, Tryz.ntmps6
  go_wp2_with fail
  refine (Hgr.out _ m).mono ?_
  rintro e w1 ⟨⟨bg, rfl, hbg⟩, m1⟩
  cases bg with
  | true =>
    clear hbg
    go_wp2_with (go_at_call 48; refine (lives_spec _ w0 _ m1).mono ?_; rintro e w2 ⟨rfl, m2⟩)
    go_ret
    exact ⟨rfl, m2⟩
  | false =>
    have hn := hbg rfl
    clear hbg
    go_wp2_with fail
    refine (opened_st _ w0 _ m1).mono ?_
    rintro e w2 ⟨p, x, rfl, m2⟩
    go_wp2_with fail
    go_loopg [9] n1 (fun gk iv wr => ∃ (i : Nat) (s : Dp), i ≤ n1 ∧ gk = n1 - i ∧ iv = .int .i64 (i : Int) ∧ Hid (Goes s ∧ s.kn.most ≤ i) ∧ DecSt x p s S w0 wr)
    case atStart => exact ⟨0, _, by omega, rfl, rfl, ⟨goes_start, Nat.zero_le _⟩, m2⟩
    case round =>
      obtain ⟨i, s, hi, hgk, rfl, Hs, m3⟩ := hrel
      by_cases hlt : i < n1
      · have hii : (i : Int) < (n1 : Int) := by omega
        obtain ⟨Z, mZ, hZ⟩ := m3.opened
        obtain ⟨ad, hA, hsp, hcl⟩ := reads_cell mZ (reads_lift inferInstance Hr.out.cells) (by omega)
        obtain ⟨bn, on_, sp⟩ := ad
        simp only at hsp
        subst hsp hA
        have hil : i < acts.length := by rw [Hr.out.len]; exact hlt
        have hok := Hr.out.each acts[i] (List.getElem_mem _)
        have Hc : Hid (∀ (j : Nat) v, acts[i].cells[j]? = some v → wr.cell? ⟨bn, on_ + i * 20 + j, none⟩ = some v) := fun j v hv => by rw [Nat.add_assoc]; exact hcl _ _ (act19_cell acts i j v hil hv)
        have Hok := Lib.hid hok
        have Hone := Lib.hid hok.one
        have HZ := Lib.hid hZ
        have hkd := hok.kind
        have hmost : Hid (s.kn.most < 4294967295) := by have := Hs.out.2; show _ < _; omega
        clear hcl hok hZ
        generalize acts[i] = ac at *
        clear hil
        obtain ⟨kk, hkk⟩ : ∃ kk, ac.kind % 9 = kk := ⟨_, rfl⟩
        have hkk2 : ((ac.kind : Int) % 9) = (kk : Int) := by omega
        have hkk1 : kk = 0 ∨ kk = 5 ∨ kk = 6 ∨ kk = 8 ∨ kk = 7 ∨ kk = 1 ∨ kk = 2 ∨ kk = 3 ∨ kk = 4 := by omega
        clear hkk
        rcases hkk1 with rfl | rfl | rfl | rfl | rfl | rfl | rfl | rfl | rfl
        · go_wp2_with first | (refine wpList_load_act Hc.out rfl rfl rfl ?_) | (refine wpList_store_act Hone.out rfl rfl rfl rfl rfl ?_; intro w8 m8)
          simp only [emp_sep] at m8
          have mD := HZ.out w8 (Go.Sl.blk wr.heap.size (.cells ac.arr 100 (0, 0)) * S) (Mod.to (m := m8) (sep_left_comm _ _ _))
          refine (want_any Hs.out.1 hmost.out ac.jA ac.jn ac.jc ac.join w8 w0 _ mD (reads_lift inferInstance Hok.out.rd) Hok.out.le Hok.out.small).mono ?_
          rintro e w9 (⟨z, _, rfl, m9⟩ | ⟨b, o, n, K, _, _, _, hg, rfl, m9⟩)
          · go_wp2_with fail
            go_roundg (n1 - (i + 1))
            case measure => omega
            case rel => exact ⟨i + 1, s, hlt, rfl, by go_num, ⟨Hs.out.1, Nat.le_succ_of_le Hs.out.2⟩, m9.drop⟩
          · go_wp2_with fail
            go_roundg (n1 - (i + 1))
            case measure => omega
            case rel => exact ⟨i + 1, s.want ac.join, hlt, rfl, by go_num, ⟨hg, Nat.succ_le_succ Hs.out.2⟩, m9.drop.drop⟩
        · go_wp2_with first | (refine wpList_load_act Hc.out rfl rfl rfl ?_) | (refine wpList_store_act Hone.out rfl rfl rfl rfl rfl ?_; intro w8 m8)
          simp only [emp_sep] at m8
          have mD := HZ.out w8 (Go.Sl.blk wr.heap.size (.cells ac.arr 100 (0, 0)) * S) (Mod.to (m := m8) (sep_left_comm _ _ _))
          refine (decide_any Hs.out.1 w8 w0 _ mD).mono ?_
          rintro e w9 (⟨rfl, m9⟩ | ⟨rfl, s', hg, _, hm, m9⟩ | ⟨s', b, o, n, K, _, _, rfl, _, hg, _, hm, m9⟩)
          · go_wp2_with fail
            go_roundg (n1 - (i + 1))
            case measure => omega
            case rel => exact ⟨i + 1, s, hlt, rfl, by go_num, ⟨Hs.out.1, Nat.le_succ_of_le Hs.out.2⟩, m9.drop⟩
          · have Hm := Lib.hid hm
            clear hm
            go_wp2_with fail
            go_roundg (n1 - (i + 1))
            case measure => omega
            case rel => exact ⟨i + 1, s', hlt, rfl, by go_num, ⟨hg, by rw [Hm.out]; exact Nat.le_succ_of_le Hs.out.2⟩, m9.drop⟩
          · have Hm := Lib.hid hm
            clear hm
            go_wp2_with fail
            go_roundg (n1 - (i + 1))
            case measure => omega
            case rel => exact ⟨i + 1, s', hlt, rfl, by go_num, ⟨hg, by rw [Hm.out]; exact Nat.le_succ_of_le Hs.out.2⟩, m9.drop.drop⟩
        · go_wp2_with first | (refine wpList_load_act Hc.out rfl rfl rfl ?_) | (refine wpList_store_act Hone.out rfl rfl rfl rfl rfl ?_; intro w8 m8)
          simp only [emp_sep] at m8
          have mD := HZ.out w8 (Go.Sl.blk wr.heap.size (.cells ac.arr 100 (0, 0)) * S) (Mod.to (m := m8) (sep_left_comm _ _ _))
          refine (tick_any Hs.out.1 w8 w0 _ mD).mono ?_
          rintro e w9 ⟨a, b, s', rfl, hg, _, hm, m9⟩
          have Hm := Lib.hid hm
          clear hm
          go_wp2_with fail
          go_roundg (n1 - (i + 1))
          case measure => omega
          case rel => exact ⟨i + 1, s', hlt, rfl, by go_num, ⟨hg, by rw [Hm.out]; exact Nat.le_succ_of_le Hs.out.2⟩, m9.drop⟩
        · go_wp2_with first | (refine wpList_load_act Hc.out rfl rfl rfl ?_) | (refine wpList_store_act Hone.out rfl rfl rfl rfl rfl ?_; intro w8 m8)
          simp only [emp_sep] at m8
          have mD := HZ.out w8 (Go.Sl.blk wr.heap.size (.cells ac.arr 100 (0, 0)) * S) (Mod.to (m := m8) (sep_left_comm _ _ _))
          refine (tick_any Hs.out.1 w8 w0 _ mD).mono ?_
          rintro e w9 ⟨a, b, s', rfl, hg, _, hm, m9⟩
          have Hm := Lib.hid hm
          clear hm
          go_wp2_with fail
          go_roundg (n1 - (i + 1))
          case measure => omega
          case rel => exact ⟨i + 1, s', hlt, rfl, by go_num, ⟨hg, by rw [Hm.out]; exact Nat.le_succ_of_le Hs.out.2⟩, m9.drop⟩
        · go_wp2_with first | (refine wpList_load_act Hc.out rfl rfl rfl ?_) | (refine wpList_store_act Hone.out rfl rfl rfl rfl rfl ?_; intro w8 m8)
          simp only [emp_sep] at m8
          have mD := HZ.out w8 (Go.Sl.blk wr.heap.size (.cells ac.arr 100 (0, 0)) * S) (Mod.to (m := m8) (sep_left_comm _ _ _))
          refine (reset_any Hs.out.1 w8 w0 _ mD).mono ?_
          rintro e w9 ⟨z, s', rfl, hg, _, hm, m9⟩
          have Hm := Lib.hid hm
          clear hm
          go_wp2_with fail
          go_roundg (n1 - (i + 1))
          case measure => omega
          case rel => exact ⟨i + 1, s', hlt, rfl, by go_num, ⟨hg, by rw [Hm.out]; exact Nat.le_succ_of_le Hs.out.2⟩, m9.drop⟩
        · go_wp2_with first | (refine wpList_load_act Hc.out rfl rfl rfl ?_) | (refine wpList_store_act Hone.out rfl rfl rfl rfl rfl ?_; intro w8 m8; simp only [emp_sep] at m8) | (refine wpList_load_actmsg (k := ac) rfl rfl rfl ?_)
          have mD := HZ.out w8 (Go.Sl.blk wr.heap.size (.cells ac.arr 100 (0, 0)) * S) (Mod.to (m := m8) (sep_left_comm _ _ _))
          refine (came_any Hs.out.1 ac.y ac.has w8 w0 _ mD (Hok.out.msg.lift inferInstance)).mono ?_
          rintro e w9 ⟨a, b, s', rfl, hg, _, hm, m9⟩
          have Hm := Lib.hid hm
          clear hm
          go_wp2_with fail
          go_roundg (n1 - (i + 1))
          case measure => omega
          case rel => exact ⟨i + 1, s', hlt, rfl, by go_num, ⟨hg, by rw [Hm.out]; exact Nat.le_succ_of_le Hs.out.2⟩, m9.drop⟩
        · go_wp2_with first | (refine wpList_load_act Hc.out rfl rfl rfl ?_) | (refine wpList_store_act Hone.out rfl rfl rfl rfl rfl ?_; intro w8 m8; simp only [emp_sep] at m8) | (refine wpList_load_actmsg (k := ac) rfl rfl rfl ?_)
          have mD := HZ.out w8 (Go.Sl.blk wr.heap.size (.cells ac.arr 100 (0, 0)) * S) (Mod.to (m := m8) (sep_left_comm _ _ _))
          refine (came_any Hs.out.1 ac.y ac.has w8 w0 _ mD (Hok.out.msg.lift inferInstance)).mono ?_
          rintro e w9 ⟨a, b, s', rfl, hg, _, hm, m9⟩
          have Hm := Lib.hid hm
          clear hm
          go_wp2_with fail
          go_roundg (n1 - (i + 1))
          case measure => omega
          case rel => exact ⟨i + 1, s', hlt, rfl, by go_num, ⟨hg, by rw [Hm.out]; exact Nat.le_succ_of_le Hs.out.2⟩, m9.drop⟩
        · go_wp2_with first | (refine wpList_load_act Hc.out rfl rfl rfl ?_) | (refine wpList_store_act Hone.out rfl rfl rfl rfl rfl ?_; intro w8 m8; simp only [emp_sep] at m8) | (refine wpList_load_actmsg (k := ac) rfl rfl rfl ?_)
          have mD := HZ.out w8 (Go.Sl.blk wr.heap.size (.cells ac.arr 100 (0, 0)) * S) (Mod.to (m := m8) (sep_left_comm _ _ _))
          refine (came_any Hs.out.1 ac.y ac.has w8 w0 _ mD (Hok.out.msg.lift inferInstance)).mono ?_
          rintro e w9 ⟨a, b, s', rfl, hg, _, hm, m9⟩
          have Hm := Lib.hid hm
          clear hm
          go_wp2_with fail
          go_roundg (n1 - (i + 1))
          case measure => omega
          case rel => exact ⟨i + 1, s', hlt, rfl, by go_num, ⟨hg, by rw [Hm.out]; exact Nat.le_succ_of_le Hs.out.2⟩, m9.drop⟩
        · go_wp2_with first | (refine wpList_load_act Hc.out rfl rfl rfl ?_) | (refine wpList_store_act Hone.out rfl rfl rfl rfl rfl ?_; intro w8 m8; simp only [emp_sep] at m8) | (refine wpList_load_actmsg (k := ac) rfl rfl rfl ?_)
          have mD := HZ.out w8 (Go.Sl.blk wr.heap.size (.cells ac.arr 100 (0, 0)) * S) (Mod.to (m := m8) (sep_left_comm _ _ _))
          refine (came_any Hs.out.1 ac.y ac.has w8 w0 _ mD (Hok.out.msg.lift inferInstance)).mono ?_
          rintro e w9 ⟨a, b, s', rfl, hg, _, hm, m9⟩
          have Hm := Lib.hid hm
          clear hm
          go_wp2_with fail
          go_roundg (n1 - (i + 1))
          case measure => omega
          case rel => exact ⟨i + 1, s', hlt, rfl, by go_num, ⟨hg, by rw [Hm.out]; exact Nat.le_succ_of_le Hs.out.2⟩, m9.drop⟩
      · have hin : i = n1 := by omega
        have hii : ¬ (i : Int) < (n1 : Int) := by omega
        have hki : (keep : Int) ≤ 9223372036854775807 := by omega
        clear hin m2 m1 m
        go_wp2_with fail
        refine (fail_st x p s _ w0 S m3 keep names (by omega)).mono ?_
        rintro e w4 ⟨p', v, D, g, ks, b, rfl, hv, ok, m4⟩
        have Hv := Lib.hid hv
        have Hok := Lib.hid ok
        clear hv ok m3
        go_wp2_with fail
        refine (again_st x p p' s v D g ks b _ w0 S Hv.out Hok.out m4).mono ?_
        rintro e w5 ⟨x', Z, rfl, m5, hZ⟩
        have HZ := Lib.hid hZ
        clear hZ m4 Hv Hok
        have hgo := goes_again Hs.out.1
        have HA : Hid (Goes s.again ∧ s.again.kn.most < 4294967295) := ⟨hgo, by have := Hs.out.2; show s.kn.most < _; omega⟩
        clear hgo
        obtain ⟨s2, hs2⟩ : ∃ s2, s.again = s2 := ⟨_, rfl⟩
        have hkn : s2.kn = s.kn := by rw [← hs2]; rfl
        rw [hs2] at HA m5
        clear hs2
        go_wp2_with fail
        obtain ⟨Y1, n1', h1, _⟩ := m5.views
        refine (holder_st x p s _ w0 _ (HZ.out _ (Y1 * S) (Mod.to (m := n1') (sep_left_comm _ _ _)))).mono ?_
        rintro e w6 ⟨rfl, m6⟩
        have H1 := Lib.hid h1
        clear h1 n1' m5 HZ
        go_wp2_with fail
        obtain ⟨Z2, n2, h2, _⟩ := m6.views
        have hO := holder_st x' p' s2 _ w0 _ (H1.out _ (Z2 * S) (Mod.to (m := n2) (sep_left_comm _ _ _)))
        rw [hkn] at hO
        refine hO.mono ?_
        rintro e w7 ⟨rfl, m7⟩
        have H2 := Lib.hid h2
        clear h2 n2 m6 H1 hO
        go_wp2_with fail
        obtain ⟨Y3, n3, h3, _⟩ := m7.views
        refine (chain_st x p s Hs.out.1.ok _ w0 _ (H2.out _ (Y3 * S) (Mod.to (m := n3) (sep_left_comm _ _ _)))).mono ?_
        rintro e w8 ⟨R1, k1, rfl, m8⟩
        have H3 := Lib.hid h3
        clear h3 n3 m7 H2
        go_wp2_with fail
        obtain ⟨Z4, n4, h4, V4⟩ := m8.views
        have hO := chain_st x' p' s2 HA.out.1.ok _ w0 _ (H3.out _ (Z4 * (rowA 5 1 (.slice R1 s.kn.many k1) s.kn.many (n8s s.kn.nodes) * S)) (Mod.to (m := n4) (by ac_rfl)))
        rw [hkn] at hO
        refine hO.mono ?_
        rintro e w9 ⟨R2, k2, rfl, m9⟩
        have H4 := Lib.hid h4
        have HV4 := Lib.hid V4
        clear h4 V4 n4 m8 H3 hO
        obtain ⟨Y5, n5, h5, V5⟩ := m9.views
        have H5 := Lib.hid h5
        have HV5 := Lib.hid V5
        have Hkn := Lib.hid hkn
        obtain ⟨X, hX, mX⟩ : ∃ X, X = _ ∧ Mod _ w0 X := ⟨_, rfl, n5⟩
        have HLx := Lib.hid (at_view HV4.out.lost (X := X) (R := Y5 * (rowA 5 1 (.slice R2 s.kn.many k2) s.kn.many (n8s s.kn.nodes) * (rowA 5 1 (.slice R1 s.kn.many k1) s.kn.many (n8s s.kn.nodes) * S))) (by rw [hX]; ac_rfl))
        have HEx := Lib.hid (at_view HV4.out.epoch (X := X) (R := Y5 * (rowA 5 1 (.slice R2 s.kn.many k2) s.kn.many (n8s s.kn.nodes) * (rowA 5 1 (.slice R1 s.kn.many k1) s.kn.many (n8s s.kn.nodes) * S))) (by rw [hX]; ac_rfl))
        have hLo := at_view HV5.out.lost hX
        have hEo := at_view HV5.out.epoch hX
        rw [hkn] at hLo hEo
        have HLo := Lib.hid hLo
        have HEo := Lib.hid hEo
        have HX := Lib.hid hX
        have RA := Lib.hid (show Reads X R1 s.kn.many (n8s s.kn.nodes) by rw [hX]; infer_instance)
        have RB := Lib.hid (show Reads X R2 s.kn.many (n8s s.kn.nodes) by rw [hX]; infer_instance)
        have hm4 := Hs.out.1.ok.kn.many
        have hnl := nodes_len hm4
        have Hnl := Lib.hid hnl
        clear h5 V5 m9 hLo hEo hX hkn n5 hnl
        go_wp2_with fail
        refine (HLx.out _ mX).mono ?_
        rintro e u1 ⟨rfl, q1⟩
        go_wp2_with fail
        refine (HLo.out _ q1).mono ?_
        rintro e u2 ⟨rfl, q2⟩
        go_wp2_with fail
        refine (HEx.out _ q2).mono ?_
        rintro e u3 ⟨rfl, q3⟩
        go_wp2_with fail
        refine (HEo.out _ q3).mono ?_
        rintro e u4 ⟨rfl, q4⟩
        clear q1 q2 q3 mX HLx HLo HEx HEo
        go_wp2_with fail
        generalize hN : s.kn.many = N at *
        have HN := Lib.hid hN
        clear hN
        go_loopg [21] N (fun gk iv wr => ∃ t : Nat, t ≤ N ∧ gk = N - t ∧ iv = .int .i64 (t : Int) ∧ Mod wr w0 X)
        case atStart => exact ⟨0, Nat.zero_le _, rfl, rfl, q4⟩
        case round =>
          obtain ⟨t, ht, hgk3, rfl, q5⟩ := hrel
          by_cases hlt2 : t < N
          · have htt : (t : Int) < (N : Int) := by omega
            obtain ⟨⟨b1, o1, sp1⟩, hA1, hsp1, _⟩ := reads_cell q5 RA.out (by omega)
            obtain ⟨⟨b2, o2, sp2⟩, hA2, hsp2, _⟩ := reads_cell q5 RB.out (by omega)
            simp only at hsp1 hsp2
            subst hsp1 hsp2 hA1 hA2
            have htl : t < s.kn.nodes.length := by rw [Hnl.out]; exact hlt2
            have k1 : CellAt X b1 (o1 + t) (vu8 (s.kn.nodes.getD t 0)) := reads_at_cell RA.out (by omega) t (n8_of htl)
            have k2 : CellAt X b2 (o2 + t) (vu8 (s.kn.nodes.getD t 0)) := reads_at_cell RB.out (by omega) t (n8_of htl)
            clear htl
            generalize s.kn.nodes.getD t 0 = y at *
            go_wp2_with fail
            go_quiet (fail)
            go_wp2_with fail
            go_roundg (N - (t + 1))
            case measure => omega
            case rel => exact ⟨t + 1, hlt2, rfl, by go_num, inferInstance⟩
          · have htn : t = N := by omega
            have htt : ¬ (t : Int) < (N : Int) := by omega
            have mO := H5.out wr (rowA 5 1 (.slice R2 N k2) N (n8s s.kn.nodes) * (Z4 * (rowA 5 1 (.slice R1 N k1) N (n8s s.kn.nodes) * S))) (Mod.to (m := q5) HX.out)
            clear htn
            go_wp2_with fail
            refine (want_any HA.out.1 HA.out.2 none 0 0 [] _ w0 _ mO reads_nil (Nat.le_refl _) (by decide)).mono ?_
            rintro e w12 (⟨z, hz, rfl, m12⟩ | ⟨b, o, n, K, hn0, hnn, hcell, hg, rfl, m12⟩)
            · have hzb : (z != 0) = true := bne_iff_ne.2 hz
              go_wp2_with fail
              obtain ⟨Y6, n6, _, V6⟩ := m12.views
              obtain ⟨SS, hSS, mSS⟩ : ∃ SS, SS = _ ∧ Mod w12 w0 SS := ⟨_, rfl, n6⟩
              have hsub : Sub SS S := by rw [hSS]; infer_instance
              have HL := Lib.hid (fun (u : World) (mu : Mod u w0 SS) => lives_spec u w0 SS mu)
              clear hSS n6 V6 m12
              have := Held.some mSS
              refine wp_region_mod mSS (by kernel_rfl) (by kernel_rfl) ?_
              repeat (go_big_quiet_step (first | (go_at_call 48; refine quiet_call (HL.out _ ?_); exact inferInstance)))
              refine wpQuiet_nil ?_
              rintro w14 ⟨sw, rfl⟩
              go_wp2
              go_ret
              exact ⟨rfl, Mod.sub (m := sw.mod) S⟩
            · have hn' : n = N := by rw [hnn, Hkn.out, HN.out]; rfl
              subst hn'
              have hle := HA.out.1.ok.le
              have e1 : (s2.want []).kn.epoch = s2.kn.epoch := rfl
              obtain ⟨Y6, n6, _, V6⟩ := m12.views
              have hEo := at_view V6.epoch (X := Y6 * (K * (rowA 5 1 (.slice R2 n k2) n (n8s s.kn.nodes) * (Z4 * (rowA 5 1 (.slice R1 n k1) n (n8s s.kn.nodes) * S))))) rfl
              rw [e1] at hEo
              obtain ⟨SS, hSS, mSS⟩ : ∃ SS, SS = _ ∧ Mod w12 w0 SS := ⟨_, rfl, n6⟩
              rw [← hSS] at hEo
              have hsub : Sub SS S := by rw [hSS]; infer_instance
              have hcl : CellAt SS b (o + 3) (vu32 (s2.kn.most + 1)) := by rw [hSS]; infer_instance
              have HL := Lib.hid (fun (u : World) (mu : Mod u w0 SS) => lives_spec u w0 SS mu)
              have HE := Lib.hid hEo
              clear hSS n6 V6 m12 hEo e1 hcell hnn mO hg
              obtain ⟨q, hq⟩ : ∃ q, s2.kn.most + 1 = q := ⟨_, rfl⟩
              rw [hq] at hcl
              generalize s2.kn.epoch = ep at *
              have hgt : (ep : Int) < (q : Int) := by omega
              clear hq hle
              go_wp2_with fail
              have := Held.some mSS
              refine wp_region_mod mSS (by kernel_rfl) (by kernel_rfl) ?_
              repeat (go_big_quiet_step (first | (go_at_call 48; refine quiet_call (HL.out _ ?_); exact inferInstance) | (go_at_call 51; refine quiet_call (HE.out _ ?_); exact inferInstance)))
              refine wpQuiet_nil ?_
              rintro w14 ⟨sw, rfl⟩
              go_wp2
              go_ret
              exact ⟨rfl, Mod.sub (m := sw.mod) S⟩
theorem decidersSure_walk (A1 : Option Addr) (n1 c1 : Nat) (k : Int) (names : Bool) (w w0 : World) (S : Asn) [m : Mod w w0 S] (hk : (Lit.int .u16 k).wf = true) (hs : (∃ l, ReadsActs19 S A1 n1 l ∧ n1 ≤ 9223372036854775807) ∧ ∀ u, Mod u w0 S → Calls Tryz.prog 47 #[.slice A1 n1 c1] u fun e w' => GreatSays n1 e ∧ Mod w' w0 S) :
    Calls Tryz.prog 6 #[.slice A1 n1 c1, .int .u16 k, .bool names] w fun e w' => e = .returned (.bool true) ∧ Mod w' w0 S := by
  obtain ⟨⟨l, r1, _⟩, hg⟩ := hs
  obtain ⟨keep, rfl, hkk⟩ := wf_u16 hk
  exact decidersSure_run A1 n1 c1 l keep names w w0 S r1 hkk hg
end Go.Proofs.YtkdiejbpleojnaaGreatDoor
