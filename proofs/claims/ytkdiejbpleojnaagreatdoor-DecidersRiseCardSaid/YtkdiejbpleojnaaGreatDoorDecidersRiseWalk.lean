/- The walk of DecidersRise: it returns true and changes nothing that was there; no condition. -/
import Derived.Test.YtkdiejbpleojnaaGreatDoorDecActOps
import Derived.Deep.QuietTactic
import Derived.BigQuiet
import Derived.Deep.LoopGhost
namespace Go.Proofs.YtkdiejbpleojnaaGreatDoor
open Go.RowKit Go.Sl
attribute [local go_sem] cell_of cellAt_of frozen_of zero_names Act19V.at0 Act19V.at1 Act19V.at18 Act19V.at19
theorem at_view {P : Program} {f : FuncId} {args : Array Value} {Z X R : Asn} {w0 : World} {r : Ending} (call : ∀ (F : Asn) (u : World), Mod u w0 (Z * F) → Calls P f args u fun e u' => e = r ∧ Mod u' w0 (Z * F)) (h : X = Z * R) : ∀ u, Mod u w0 X → Calls P f args u fun e u' => e = r ∧ Mod u' w0 X := by subst h; exact call R
set_option maxRecDepth 4000 in
set_option maxHeartbeats 4000000 in
theorem decidersRise_run (A1 : Option Addr) (n1 c1 : Nat) (acts : List Act19V) (w w0 : World) (S : Asn) [m : Mod w w0 S] (r1 : ReadsActs19 S A1 n1 acts) (hgr : ∀ u, Mod u w0 S → Calls Tryz.prog 47 #[.slice A1 n1 c1] u fun e w' => GreatSays n1 e ∧ Mod w' w0 S) :
    Calls Tryz.prog 5 #[.slice A1 n1 c1] w fun e w' => e = .returned (.bool true) ∧ Mod w' w0 S := by
  have Hgr := Lib.hid hgr
  have Hr := Lib.hid r1
  clear hgr r1
  go_enter Tryz.func5, Tryz.ntmps5
  go_wp2_with fail
  refine (Hgr.out _ m).mono ?_
  rintro e w1 ⟨⟨bg, rfl, hbg⟩, m1⟩
  cases bg with
  | true =>
    clear hbg
    go_wp2_with (go_at_call 48; refine (lives_spec _ w0 _ m1).mono ?_; rintro e w2 ⟨rfl, m2⟩)
    go_ret
    exact ⟨rfl, m2⟩
  | false =>
    have hn := hbg rfl
    clear hbg
    go_wp2_with fail
    refine (opened_st _ w0 _ m1).mono ?_
    rintro e w2 ⟨p0, x0, rfl, m2⟩
    go_wp2_with fail
    go_loopg [3, 4, 5, 6] n1 (fun gk pv xv mv iv wr => ∃ (i p x : Nat) (s : Dp), i ≤ n1 ∧ gk = n1 - i ∧ pv = ptr p ∧ xv = ptr x ∧ mv = vu32 s.kn.most ∧ iv = .int .i64 (i : Int) ∧ Hid (Goes s ∧ s.kn.most ≤ i) ∧ DecSt x p s S w0 wr)
    case atStart => exact ⟨0, p0, x0, Dp.start, by omega, rfl, rfl, rfl, rfl, rfl, ⟨goes_start, Nat.zero_le _⟩, m2⟩
    case round =>
      obtain ⟨i, p, x, s, hi, hgk, rfl, rfl, rfl, rfl, Hs, m3⟩ := hrel
      by_cases hlt : i < n1
      · have hii : (i : Int) < (n1 : Int) := by omega
        obtain ⟨Z, mZ, hZ⟩ := m3.opened
        obtain ⟨ad, hA, hsp, hcl⟩ := reads_cell mZ (reads_lift inferInstance Hr.out.cells) (by omega)
        obtain ⟨bn, on_, sp⟩ := ad
        simp only at hsp
        subst hsp hA
        have hil : i < acts.length := by rw [Hr.out.len]; exact hlt
        have hok := Hr.out.each acts[i] (List.getElem_mem _)
        have Hc : Hid (∀ (j : Nat) v, acts[i].cells[j]? = some v → wr.cell? ⟨bn, on_ + i * 20 + j, none⟩ = some v) := fun j v hv => by rw [Nat.add_assoc]; exact hcl _ _ (act19_cell acts i j v hil hv)
        have Hok := Lib.hid hok
        have Hone := Lib.hid hok.one
        have HZ := Lib.hid hZ
        have hkd := hok.kind
        have hmost : Hid (s.kn.most < 4294967295) := by have := Hs.out.2; show _ < _; omega
        clear hcl hok hZ
        generalize acts[i] = ac at *
        clear hil
        obtain ⟨kk, hkk⟩ : ∃ kk, ac.kind % 9 = kk := ⟨_, rfl⟩
        have hkk2 : ((ac.kind : Int) % 9) = (kk : Int) := by omega
        have hkk1 : (kk = 0 ∨ kk = 6) ∨ kk = 5 ∨ kk = 8 ∨ kk = 7 ∨ (kk = 1 ∨ kk = 2 ∨ kk = 3 ∨ kk = 4) := by omega
        clear hkk
        rcases hkk1 with h | rfl | rfl | rfl | h
        · rcases h with rfl | rfl
          all_goals
            go_wp2_with first | (refine wpList_load_act Hc.out rfl rfl rfl ?_) | (refine wpList_store_act Hone.out rfl rfl rfl rfl rfl ?_; intro w8 m8)
            simp only [emp_sep] at m8
            have mD := HZ.out w8 (Go.Sl.blk wr.heap.size (.cells ac.arr 100 (0, 0)) * S) (Mod.to (m := m8) (sep_left_comm _ _ _))
            refine (want_any Hs.out.1 hmost.out ac.jA ac.jn ac.jc ac.join w8 w0 _ mD (reads_lift inferInstance Hok.out.rd) Hok.out.le Hok.out.small).mono ?_
            rintro e w9 (⟨z, hz, rfl, m9⟩ | ⟨b, o, n, K, hn0, hnn, hcell, hg, rfl, m9⟩)
            · have hzb : (z == 0) = false := beq_eq_false_iff_ne.2 hz
              have Hz := Lib.hid hz
              clear hz
              go_wp2_with fail
              go_roundg (n1 - (i + 1))
              case measure => omega
              case rel => exact ⟨i + 1, p, x, s, hlt, rfl, rfl, rfl, rfl, by go_num, ⟨Hs.out.1, Nat.le_succ_of_le Hs.out.2⟩, m9.drop⟩
            · clear hnn
              have e1 : (s.want ac.join).kn.epoch = s.kn.epoch := rfl
              have e2 : (s.want ac.join).kn.most = s.kn.most + 1 := rfl
              have hle := Hs.out.1.ok.le
              obtain ⟨Y6, n6, h6, V6⟩ := m9.views
              have hEo := at_view V6.epoch (X := Y6 * (K * (Go.Sl.blk wr.heap.size (.cells ac.arr 100 (0, 0)) * S))) rfl
              rw [e1] at hEo
              obtain ⟨SS, hSS, mSS⟩ : ∃ SS, SS = _ ∧ Mod w9 w0 SS := ⟨_, rfl, n6⟩
              rw [← hSS] at hEo
              have hcl : CellAt SS b (o + 3) (vu32 (s.kn.most + 1)) := by rw [hSS]; infer_instance
              have HE := Lib.hid hEo
              have HSS := Lib.hid hSS
              have H6 := Lib.hid h6
              have Hg := Lib.hid hg
              have E2 := Lib.hid e2
              clear hSS n6 V6 m9 hEo e1 e2 hcell mD m8 h6 hg
              obtain ⟨q, hq⟩ : ∃ q, s.kn.most + 1 = q := ⟨_, rfl⟩
              rw [hq] at hcl
              have hgt1 : decide (q ≤ s.kn.most) = false := decide_eq_false (by omega)
              have hgt2 : decide (q ≤ s.kn.epoch) = false := decide_eq_false (by omega)
              have hn0i : ((n : Int) == 0) = false := beq_eq_false_iff_ne.2 (by omega)
              have hn1 : (0 : Int) < (n : Int) := by omega
              have Hq := Lib.hid hq
              clear hq hle
              go_wp2_with fail
              have := Held.some mSS
              refine wp_region_mod mSS (by kernel_rfl) (by kernel_rfl) ?_
              repeat (go_big_quiet_step (first | (go_at_call 51; refine quiet_call (HE.out _ ?_); exact inferInstance)))
              refine wpQuiet_nil ?_
              rintro w14 ⟨sw, rfl⟩
              have mU := sw.mod
              generalize sw.world = u at *
              go_wp2_with fail
              go_roundg (n1 - (i + 1))
              case measure => omega
              case rel => exact ⟨i + 1, p, x, s.want ac.join, hlt, rfl, rfl, rfl, by rw [E2.out, Hq.out], by go_num, ⟨Hg.out, by rw [E2.out]; exact Nat.succ_le_succ Hs.out.2⟩, (H6.out u (K * (Go.Sl.blk wr.heap.size (.cells ac.arr 100 (0, 0)) * S)) (Mod.to (m := mU) HSS.out)).drop.drop⟩
        · go_wp2_with first | (refine wpList_load_act Hc.out rfl rfl rfl ?_) | (refine wpList_store_act Hone.out rfl rfl rfl rfl rfl ?_; intro w8 m8)
          simp only [emp_sep] at m8
          have mD := HZ.out w8 (Go.Sl.blk wr.heap.size (.cells ac.arr 100 (0, 0)) * S) (Mod.to (m := m8) (sep_left_comm _ _ _))
          refine (epoch_st x p s w8 w0 _ mD).mono ?_
          rintro e w9 ⟨rfl, m9⟩
          go_wp2_with fail
          refine (decide_any Hs.out.1 w9 w0 _ m9).mono ?_
          rintro e w10 (⟨rfl, m10⟩ | ⟨rfl, s', hg, he, hm, m10⟩ | ⟨s', b, o, n, K, hn0, _, rfl, hcell, hg, he, hm, m10⟩)
          · have HE := Lib.hid (epoch_st x p s w10 w0 _ m10)
            clear mD m8 m9 m10
            go_wp2_with (go_at_call 51; refine HE.out.mono ?_; rintro e w12 ⟨rfl, m12⟩)
            go_roundg (n1 - (i + 1))
            case measure => omega
            case rel => exact ⟨i + 1, p, x, s, hlt, rfl, rfl, rfl, rfl, by go_num, ⟨Hs.out.1, Nat.le_succ_of_le Hs.out.2⟩, m12.drop⟩
          · have hE := epoch_st x p s' w10 w0 _ m10
            rw [he] at hE
            have HE := Lib.hid hE
            have Hm := Lib.hid hm
            have Hg := Lib.hid hg
            clear mD m8 m9 m10 hE he hm hg
            go_wp2_with (go_at_call 51; refine HE.out.mono ?_; rintro e w12 ⟨rfl, m12⟩)
            go_roundg (n1 - (i + 1))
            case measure => omega
            case rel => exact ⟨i + 1, p, x, s', hlt, rfl, rfl, rfl, by rw [Hm.out], by go_num, ⟨Hg.out, by rw [Hm.out]; exact Nat.le_succ_of_le Hs.out.2⟩, m12.drop⟩
          · obtain ⟨Y6, n6, h6, V6⟩ := m10.views
            have hEo := at_view V6.epoch (X := Y6 * (K * (Go.Sl.blk wr.heap.size (.cells ac.arr 100 (0, 0)) * S))) rfl
            rw [he] at hEo
            obtain ⟨SS, hSS, mSS⟩ : ∃ SS, SS = _ ∧ Mod w10 w0 SS := ⟨_, rfl, n6⟩
            rw [← hSS] at hEo
            have hcl : CellAt SS b (o + 3) (vu32 s.kn.most) := by rw [hSS]; infer_instance
            have HE := Lib.hid (hEo w10 mSS)
            have HSS := Lib.hid hSS
            have H6 := Lib.hid h6
            have Hg := Lib.hid hg
            have Hm := Lib.hid hm
            have hn0i : ((n : Int) == 0) = false := beq_eq_false_iff_ne.2 (by omega)
            have hn1 : (0 : Int) < (n : Int) := by omega
            clear hSS n6 V6 m10 m9 hEo hcell mD m8 h6 hg he hm mSS
            go_wp2_with (go_at_call 51; refine HE.out.mono ?_; rintro e w12 ⟨rfl, m12⟩)
            go_roundg (n1 - (i + 1))
            case measure => omega
            case rel => exact ⟨i + 1, p, x, s', hlt, rfl, rfl, rfl, by rw [Hm.out], by go_num, ⟨Hg.out, by rw [Hm.out]; exact Nat.le_succ_of_le Hs.out.2⟩, (H6.out w12 (K * (Go.Sl.blk wr.heap.size (.cells ac.arr 100 (0, 0)) * S)) (Mod.to (m := m12) HSS.out)).drop.drop⟩
        · obtain ⟨kp, hkp, hkb⟩ : ∃ kp : Nat, max 0 ac.keep = (kp : Int) ∧ kp ≤ 9223372036854775807 := ⟨(max 0 ac.keep).toNat, by omega, by have := Hok.out.keepHi; omega⟩
          go_wp2_with first | (refine wpList_load_act Hc.out rfl rfl rfl ?_) | (refine wpList_store_act Hone.out rfl rfl rfl rfl rfl ?_; intro w8 m8)
          simp only [emp_sep] at m8
          have mD := HZ.out w8 (Go.Sl.blk wr.heap.size (.cells ac.arr 100 (0, 0)) * S) (Mod.to (m := m8) (sep_left_comm _ _ _))
          clear hkp
          refine (fail_st x p s w8 w0 _ mD kp ac.names hkb).mono ?_
          rintro e w9 ⟨p', v, D, g, ks, b, rfl, hv, ok, m9⟩
          have Hv := Lib.hid hv
          have Hok2 := Lib.hid ok
          clear hv ok mD m8
          go_wp2_with fail
          refine (again_st x p p' s v D g ks b _ w0 _ Hv.out Hok2.out m9).mono ?_
          rintro e w10 ⟨x', Z2, rfl, m10, _⟩
          clear m9 Hv Hok2
          go_wp2_with fail
          go_roundg (n1 - (i + 1))
          case measure => omega
          case rel => exact ⟨i + 1, p', x', s.again, hlt, rfl, rfl, rfl, rfl, by go_num, ⟨goes_again Hs.out.1, Nat.le_succ_of_le Hs.out.2⟩, m10.drop.drop⟩
        · go_wp2_with first | (refine wpList_load_act Hc.out rfl rfl rfl ?_) | (refine wpList_store_act Hone.out rfl rfl rfl rfl rfl ?_; intro w8 m8; simp only [emp_sep] at m8)
          have mD := HZ.out w8 (Go.Sl.blk wr.heap.size (.cells ac.arr 100 (0, 0)) * S) (Mod.to (m := m8) (sep_left_comm _ _ _))
          refine (reset_any Hs.out.1 w8 w0 _ mD).mono ?_
          rintro e w9 ⟨z, s', rfl, hg, _, hm, m9⟩
          have Hm := Lib.hid hm
          clear hm
          go_wp2_with fail
          go_roundg (n1 - (i + 1))
          case measure => omega
          case rel => exact ⟨i + 1, p, x, s', hlt, rfl, rfl, rfl, by rw [Hm.out], by go_num, ⟨hg, by rw [Hm.out]; exact Nat.le_succ_of_le Hs.out.2⟩, m9.drop⟩
        · rcases h with rfl | rfl | rfl | rfl
          all_goals
            go_wp2_with first | (refine wpList_load_act Hc.out rfl rfl rfl ?_) | (refine wpList_store_act Hone.out rfl rfl rfl rfl rfl ?_; intro w8 m8; simp only [emp_sep] at m8) | (refine wpList_load_actmsg (k := ac) rfl rfl rfl ?_)
            have mD := HZ.out w8 (Go.Sl.blk wr.heap.size (.cells ac.arr 100 (0, 0)) * S) (Mod.to (m := m8) (sep_left_comm _ _ _))
            refine (came_any Hs.out.1 ac.y ac.has w8 w0 _ mD (Hok.out.msg.lift inferInstance)).mono ?_
            rintro e w9 ⟨a, b, s', rfl, hg, _, hm, m9⟩
            have Hm := Lib.hid hm
            clear hm
            go_wp2_with fail
            go_roundg (n1 - (i + 1))
            case measure => omega
            case rel => exact ⟨i + 1, p, x, s', hlt, rfl, rfl, rfl, by rw [Hm.out], by go_num, ⟨hg, by rw [Hm.out]; exact Nat.le_succ_of_le Hs.out.2⟩, m9.drop⟩
      · have hii : ¬ (i : Int) < (n1 : Int) := by omega
        obtain ⟨Z, mZ, _⟩ := m3.opened
        clear m3 m2 m1
        go_wp2_with (go_at_call 48; refine (lives_spec _ w0 _ mZ).mono ?_; rintro e w4 ⟨rfl, m4⟩)
        go_ret
        exact ⟨rfl, Mod.sub S (m := m4)⟩
theorem decidersRise_walk (A1 : Option Addr) (n1 c1 : Nat) (w w0 : World) (S : Asn) [m : Mod w w0 S] (hs : (∃ l, ReadsActs19 S A1 n1 l ∧ n1 ≤ 9223372036854775807) ∧ ∀ u, Mod u w0 S → Calls Tryz.prog 47 #[.slice A1 n1 c1] u fun e w' => GreatSays n1 e ∧ Mod w' w0 S) :
    Calls Tryz.prog 5 #[.slice A1 n1 c1] w fun e w' => e = .returned (.bool true) ∧ Mod w' w0 S := by
  obtain ⟨⟨l, r1, _⟩, hg⟩ := hs
  exact decidersRise_run A1 n1 c1 l w w0 S r1 hg
end Go.Proofs.YtkdiejbpleojnaaGreatDoor
