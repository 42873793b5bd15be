/- The walk of DecidersKeep: it returns true and changes nothing that was there; no condition. -/
import Derived.Test.YtmpgnnjhgjfgaaaGreatDoorDecHeard
import Derived.Test.YtmpgnnjhgjfgaaaGreatDoorDecSG
import Derived.Test.YtmpgnnjhgjfgaaaGreatDoorDecMG
import Derived.Deep.QuietTactic
import Derived.BigQuiet
namespace Go.Proofs.YtmpgnnjhgjfgaaaGreatDoor
open Go.RowKit Go.Sl
attribute [local go_sem] cell_of cellAt_of frozen_of zero_names MsgV.at0 MsgV.at1 MsgV.at2 MsgV.at3 MsgV.at4 MsgV.at5 MsgV.at6 MsgV.at7 MsgV.at8 MsgV.at9
def intsA (l : List Nat) : Array Value := (l.map fun n : Nat => Value.int .i64 (n : Int)).toArray
set_option maxRecDepth 100000 in
theorem zeros_ints : Tryz.zeroCells49 = intsA (List.replicate 256 0) := by kernel_rfl
theorem ints_at {l : List Nat} {i : Nat} (h : i < l.length) : (intsA l)[i]? = some (.int .i64 ((l.getD i 0 : Nat) : Int)) := by rw [List.getD_eq_getElem?_getD]; simp [intsA, h]
theorem ints_set (l : List Nat) (i n : Nat) : (intsA l).setIfInBounds i (.int .i64 (n : Int)) = intsA (l.set i n) := by simp [intsA, List.map_set]
theorem ints_size (l : List Nat) : (intsA l).size = l.length := by simp [intsA]
theorem as6_cells (y : MsgV) : ((y.cells.setIfInBounds 0 (.int .u8 6)).setIfInBounds 2 (.int .u8 0)).setIfInBounds 3 (.int .u32 2) = y.as6.cells := rfl
theorem n8_at {l : List Nat} {i : Nat} (h : i < l.length) : (n8s l)[i]? = some (vu8 (l.getD i 0)) := by rw [List.getD_eq_getElem?_getD]; simp [h]
theorem came_asked {x p : Nat} {first : List Nat} {i : Nat} {s : Dp} (h : Asked first i s) (hi : i < first.length) (y : Nat) (hy : first.getD i 0 = y) (w w0 : World) (F : Asn) (m : DecSt x p s F w0 w) :
    Calls Tryz.prog 10 #[ptr x, .agg (msgOf 6 y 1 0).cells] w fun e w' => e = .returned (.tuple #[.slice none 0 0, .int .i64 0]) ∧ DecSt x p (s.cameS (msgOf 6 y 1 0) []) F w0 w' := by
  subst hy
  have hmem : first.getD i 0 ∈ first := by rw [List.getD_eq_getElem?_getD, List.getElem?_eq_getElem hi]; exact List.getElem_mem _
  have hn := h.ok.jn4 h.seals (first.getD i 0) (by rw [h.join]; exact hmem)
  refine (came_st x p s h.ok (msgOf 6 (first.getD i 0) 1 0) [] w w0 F m (msgOf_ok (by decide) (by omega) (by decide) (by decide))).mono ?_
  rintro e w' (⟨h1, _⟩ | ⟨_, ⟨_, h2, h3⟩ | ⟨h2, _⟩⟩)
  · exact absurd ⟨.inl rfl, rfl, hn.1, hn.2⟩ h1
  · exact ⟨h2, h3⟩
  · exact absurd h2 (by show ¬ 6 = 9; decide)
theorem decide_asked {x p : Nat} {first : List Nat} {s : Dp} (h : Asked first first.length s) (h0 : 0 < first.length) (w w0 : World) (F : Asn) (m : DecSt x p s F w0 w) : Calls Tryz.prog 11 #[ptr x] w fun e w' =>
    ∃ (k : Kn) (C : Option Addr) (c : Nat) (ys : List MsgV) (G : Asn), FirstKn first k ∧ e = .returned (.tuple #[.slice C first.length first.length, .int .i64 0]) ∧ DecSt x p { s with kn := k, seals := false } (rowA 44 16 (.slice C first.length c) first.length (ys.flatMap fun y => y.cells.toList) * (G * F)) w0 w' := by
  obtain ⟨k, hd, hk⟩ := asked_decide h h0
  refine (decide_spec x p s h.ok h.seals w w0 F m).mono ?_
  rintro e w' hR
  rw [hd] at hR
  obtain ⟨C, c, ys, G, e1, _, _, e4⟩ := hR
  rw [hk.chain.many] at e1 e4
  exact ⟨k, C, c, ys, G, hk, e1, e4⟩
theorem filter_take (p : Nat → Bool) (l : List Nat) (t : Nat) (h : t < l.length) : (l.take (t + 1)).filter p = (l.take t).filter p ++ (if p (l.getD t 0) = true then [l.getD t 0] else []) := by
  rw [List.take_succ_eq_append_getElem h, List.filter_append, List.getD_eq_getElem?_getD, List.getElem?_eq_getElem h, Option.getD_some]
  congr 1
  cases hp : p l[t] <;> simp [hp]
theorem decide_heard {x p : Nat} {first join : List Nat} {k : Kn} {hs : List Nat} {s : Dp} (hk : FirstKn first k) (h : Heard first join k hs s) (hf : 0 < first.length) (w w0 : World) (F : Asn) (m : DecSt x p s F w0 w) : Calls Tryz.prog 11 #[ptr x] w fun e w' =>
    ∃ (C : Option Addr) (n ze : Nat) (s' : Dp) (K : Asn) (ys : List MsgV), e = .returned (.tuple #[.slice C n n, .int .i64 (ze : Int)]) ∧ DecSt x p s' (K * F) w0 w' ∧ Reads K C (n * 16) (ys.flatMap fun y => y.cells.toList) ∧ ys.length = n ∧
      ((keptOf2 first hs ≠ [] ∧ ze = 0 ∧ DpOk s' ∧ NextKn (keptOf2 first hs ++ joinedOf join hs) s'.kn ∧ n = (keptOf2 first hs ++ joinedOf join hs).length ∧ ∀ i (h : i < ys.length), ys[i].to = (keptOf2 first hs ++ joinedOf join hs).getD i 0 ∧ ys[i].index = 0 ∧ ys[i].epoch = 2) ∨
        (keptOf2 first hs = [] ∧ (ze = 9 ∨ (n = 1 ∧ ze = 0 ∧ ∀ i (h : i < ys.length), ys[i].index = 2)))) := by
  refine (decide_spec x p s h.ok h.seals w w0 F m).mono ?_
  rintro e w' hR
  by_cases h0 : keptOf2 first hs = []
  · rcases heard_none hk h hf h0 with hd | ⟨k2, hd, e1, e2⟩
    · rw [hd] at hR
      obtain ⟨r1, r2⟩ := hR
      exact ⟨none, 0, 9, s, emp, [], r1, by rw [emp_sep]; exact r2, reads_nil, rfl, .inr ⟨h0, .inl rfl⟩⟩
    · rw [hd] at hR
      obtain ⟨C, c, ys, G, r1, r2, r3, r4⟩ := hR
      refine ⟨C, k2.many, 0, _, rowA 44 16 (.slice C k2.many c) k2.many (ys.flatMap fun y => y.cells.toList) * G, ys, r1, by rw [sep_assoc]; exact r4, reads_lift inferInstance (reads_rown (e := 44) (c := c) (A := C) (by decide)), r2, .inr ⟨h0, .inr ⟨e1, rfl, fun i hi => ?_⟩⟩⟩
      rw [(r3 i hi).index, e2]
  · obtain ⟨k2, hd, hn⟩ := heard_made hk h h0
    rw [hd] at hR
    obtain ⟨C, c, ys, G, r1, r2, r3, r4⟩ := hR
    refine ⟨C, k2.many, 0, _, rowA 44 16 (.slice C k2.many c) k2.many (ys.flatMap fun y => y.cells.toList) * G, ys, r1, by rw [sep_assoc]; exact r4, reads_lift inferInstance (reads_rown (e := 44) (c := c) (A := C) (by decide)), r2, .inl ⟨h0, rfl, dmade_ok h.ok hn.ok hn.chain hn.holder, hn, hn.chain.many, fun i hi => ?_⟩⟩
    have := r3 i hi
    exact ⟨by rw [this.to, hn.chain.c], by rw [this.index, hn.index], by rw [this.epoch, hn.epoch]⟩
set_option maxRecDepth 4000 in
set_option maxHeartbeats 4000000 in
theorem decidersKeep_run (A1 : Option Addr) (n1 c1 : Nat) (first : List Nat) (A2 : Option Addr) (n2 c2 : Nat) (ms : List MsgV) (A3 : Option Addr) (n3 c3 : Nat) (join : List Nat) (w w0 : World) (S : Asn) [m : Mod w w0 S] (r1 : Reads S A1 n1 (n8s first)) (hn1 : n1 ≤ c1) (h1 : n1 ≤ 140737488355328) (r2 : ReadsMsgs S A2 n2 ms) (h2 : n2 ≤ 9223372036854775807)
    (r3 : Reads S A3 n3 (n8s join)) (hn3 : n3 ≤ c3) (h3 : n3 ≤ 140737488355328) :
    Calls Tryz.prog 4 #[.slice A1 n1 c1, .slice A2 n2 c2, .slice A3 n3 c3] w fun e w' => e = .returned (.bool true) ∧ Mod w' w0 S := by
  by_cases hgr : 50 < n2
  · have hgi : (50 : Int) < (n2 : Int) := by omega
    go_enter Tryz.func4, Tryz.ntmps4
    go_wp2_with (go_at_call 7; refine (lives_spec _ w0 _ m).mono ?_; rintro e w1 ⟨rfl, m1⟩)
    go_ret
    exact ⟨rfl, m1⟩
  have hgi : ¬ (50 : Int) < (n2 : Int) := by omega
  have hl1 : first.length = n1 := by have := reads_len m r1; simpa using this
  go_enter Tryz.func4, Tryz.ntmps4
  go_wp2_with (go_at_call 8; refine (opened_st _ w0 _ m).mono ?_; rintro e w1 ⟨p, x, rfl, m1⟩)
  refine (want_st x p Dp.start start_ok rfl (by decide) A1 n1 c1 first _ w0 _ m1 r1 hn1 h1).mono ?_
  rintro e w2 (⟨hno, rfl, m2⟩ | ⟨hjo, B, cB, rfl, m2⟩)
  · obtain ⟨Z, mZ, hZ⟩ := m2.opened
    go_wp2_with (go_at_call 7; refine (lives_spec _ w0 _ mZ).mono ?_; rintro e w3 ⟨rfl, m3⟩)
    go_ret
    exact ⟨rfl, Mod.sub S (m := m3)⟩
  · have Hjo := Lib.hid hjo
    clear hjo
    go_wp2_with fail
    rw [hl1] at m2
    obtain ⟨F1, hF1⟩ : ∃ F1, F1 = rowA 44 16 (.slice B (Dp.start.kn.many + n1) cB) (Dp.start.kn.many + n1) (sealCells (Dp.start.kn.nodes ++ first) (Dp.start.kn.most + 1)) * S := ⟨_, rfl⟩
    rw [← hF1] at m2
    have s1 : Sub F1 S := by rw [hF1]; infer_instance
    have r1' := reads_lift s1 r1
    have r2' := r2.lift s1
    have r3' := reads_lift s1 r3
    have HA := Lib.hid (asked_start Hjo.out)
    have Hl1 := Lib.hid hl1
    clear hF1 hl1 m m1
    go_loopg [11] n1 (fun gk iv wr => ∃ (i : Nat) (s : Dp), i ≤ n1 ∧ gk = n1 - i ∧ iv = .int .i64 (i : Int) ∧ Hid (Asked first i s) ∧ DecSt x p s F1 w0 wr)
    case atStart => exact ⟨0, _, by omega, rfl, rfl, HA, m2⟩
    case round =>
      obtain ⟨i, s, hi, hgk, rfl, Hs, m3⟩ := hrel
      by_cases hlt : i < n1
      · have hii : (i : Int) < (n1 : Int) := by omega
        obtain ⟨Z, mZ, hZ⟩ := m3.opened
        obtain ⟨ad, hA, hsp, hcl⟩ := reads_cell mZ (reads_lift inferInstance r1') (by omega)
        obtain ⟨bn, on_, sp⟩ := ad
        simp only at hsp
        subst hsp hA
        have hil : i < first.length := by rw [Hl1.out]; exact hlt
        have hx := hcl i (.int .u8 ((first.getD i 0 : Nat) : Int)) (by rw [List.getD_eq_getElem?_getD]; simp [hil])
        have Hnext := Lib.hid (asked_step Hs.out hil)
        have HC := Lib.hid (came_asked (x := x) (p := p) Hs.out hil)
        clear hcl mZ hZ
        generalize first.getD i 0 = y at *
        have HC2 := Lib.hid (HC.out y rfl wr w0 F1 m3)
        clear HC
        go_wp2_with (go_at_call 10; refine (HC2.out).mono ?_; rintro e w4 ⟨rfl, m4⟩)
        go_roundg (n1 - (i + 1))
        case measure => omega
        case rel => exact ⟨i + 1, _, by omega, rfl, by go_num, Hnext, m4⟩
      · have hi2 : i = n1 := by omega
        subst hi2
        have hii : ¬ ((i : Int) < (i : Int)) := by omega
        have h0 : 0 < first.length := by have := Hjo.out.2; simpa [Dp.start, Kn.nodes, Kn.zero] using this
        have hD := decide_asked (x := x) (p := p) (by rw [Hl1.out]; exact Hs.out) h0
        rw [Hl1.out] at hD
        have Hl := Lib.hid (fun k hk => led_start (s := s) (k := k) (first := first) (by rw [Hl1.out]; exact Hs.out) hk)
        have HD := Lib.hid (hD wr w0 F1 m3)
        clear hD m3 m2 HA Hs
        go_wp2_with (go_at_call 11; refine HD.out.mono ?_; rintro e w5 ⟨k, C, cC, ys, G5, hk, rfl, m5⟩)
        have HL := Hl.out k hk
        have hmost : k.most < 4294967295 := by rw [hk.most]; decide
        have m6 := m5.drop.drop
        have hkn : ({ s with kn := k, seals := false } : Dp).kn = k := rfl
        clear HD m5
        generalize hs2 : ({ s with kn := k, seals := false } : Dp) = s2 at *
        have hlost : s2.kn.lost = false := by rw [hkn]; exact hk.lost
        have hmost2 : s2.kn.most < 4294967295 := by rw [hkn]; exact hmost
        refine (want_st x p s2 HL.ok hlost hmost2 A3 n3 c3 join w5 w0 F1 m6 r3' hn3 h3).mono ?_
        rintro e w6 (⟨hno, rfl, m7⟩ | ⟨hjo2, B7, c7, rfl, m7⟩)
        · obtain ⟨Z, mZ, hZ⟩ := m7.opened
          go_wp2_with (go_at_call 7; refine (lives_spec _ w0 _ mZ).mono ?_; rintro e w8 ⟨rfl, m8⟩)
          go_ret
          exact ⟨rfl, (Mod.sub F1 (m := m8)).sub S⟩
        · have HH := Lib.hid (heard_start HL hk hkn (by rw [← HL.chain.nodes]; exact hjo2))
          have Hk := Lib.hid hk
          replace m7 := m7.drop
          generalize hs3 : s2.want join = s3 at *
          clear hjo2 HL hk hkn hlost hmost2 hmost m6 hs2 hs3
          generalize s2.kn.many + join.length = q7 at *
          go_wp2_with fail
          obtain ⟨Z6, mZ6, hZ6⟩ := m7.opened
          have m8 : DecSt x p s3 (Go.Sl.blk w6.heap.size (.cells (intsA (List.replicate 256 0)) 49) * F1) w0 (w6.alloc (Obj.cells Tryz.zeroCells49 49)) := by
            rw [← zeros_ints]
            exact hZ6 _ _ (Mod.pull Z6)
          clear mZ6 hZ6 m7
          generalize w6.heap.size = gh at *
          go_loopg [17] n2 (fun gk iv wr => ∃ (i : Nat) (hs : List Nat) (s : Dp), i ≤ n2 ∧ gk = n2 - i ∧ iv = .int .i64 (i : Int) ∧ Hid (Heard first join k hs s) ∧ DecSt x p s (Go.Sl.blk gh (.cells (intsA hs) 49) * F1) w0 wr)
          case atStart => exact ⟨0, _, _, by omega, rfl, rfl, HH, m8⟩
          case round =>
            obtain ⟨i2, hs, s, hi2, hgk2, rfl, Hs, m9⟩ := hrel
            by_cases hlt2 : i2 < n2
            · have hii2 : (i2 : Int) < (n2 : Int) := by omega
              obtain ⟨Z, mZ, hZ⟩ := m9.opened
              obtain ⟨ad, hA, hsp, hcl⟩ := reads_cell mZ (reads_lift inferInstance r2'.cells) (by omega)
              obtain ⟨bn2, on2, sp⟩ := ad
              simp only at hsp
              subst hsp hA
              have hlen := r2'.len
              have hil : i2 < ms.length := by omega
              obtain ⟨has, hmsg⟩ := r2'.each ms[i2] (List.getElem_mem _)
              have Hc : Hid (∀ (j : Nat) v, ms[i2].cells[j]? = some v → wr.cell? ⟨bn2, on2 + i2 * 16 + j, none⟩ = some v) := fun j v hv => by rw [Nat.add_assoc]; exact hcl _ _ (msg_cell ms i2 j v hil hv)
              have Hone := Lib.hid hmsg.one
              have Hz := Lib.hid (as6_ok hmsg (as6_one hmsg.one))
              have HZ := Lib.hid hZ
              clear hcl hmsg hlen hZ
              generalize ms[i2] = y at *
              obtain ⟨cs, hcs⟩ : ∃ cs, cs = intsA hs := ⟨_, rfl⟩
              rw [← hcs] at mZ
              go_wp2_with first | (refine wpList_load_row Hc.out rfl rfl rfl ?_) | (refine wpList_store_msg Hone.out rfl rfl rfl rfl rfl ?_; intro w8 m8) | (refine wpList_load_msg rfl rfl rfl ?_)
              refine calls_gen (w0 := w0) ?_
              intro w9 m9
              rw [as6_cells] at m9
              have hz6 : y.as6.say = 6 := rfl
              have hz0 : y.as6.to = 0 := rfl
              have hz2 : y.as6.epoch = 2 := rfl
              clear Hc Hone m8
              generalize y.as6 = z at *
              generalize wr.heap.size = gx at *
              simp only [emp_sep] at m9
              refine (came_st x p s Hs.out.ok z has w9 w0 _ (HZ.out w9 (Go.Sl.blk gx (.cells z.cells 44) * (Go.Sl.blk gh (.cells cs 49) * F1)) (Mod.to (m := m9) (by ac_rfl))) (Hz.out.lift inferInstance)).mono ?_
              rintro e w10 (⟨hbad, rfl, m10⟩ | ⟨⟨_, hf1, hf4⟩, ⟨_, rfl, m10⟩ | ⟨h9, _⟩⟩)
              · obtain ⟨Z10, mZ10, hZ10⟩ := m10.opened
                have HZ10 := Lib.hid hZ10
                clear hZ10 hbad m9 mZ
                go_wp2_with fail
                go_roundg (n2 - (i2 + 1))
                case measure => omega
                case rel => exact ⟨i2 + 1, hs, s, by omega, rfl, by go_num, Hs, by rw [← hcs]; exact m10.drop⟩
              · have Hstep := Lib.hid (heard_step Hk.out Hs.out (y := z) (has := has) Hz.out.ok hz2 hf4)
                have hlt3 : z.from_ < hs.length := by rw [Hs.out.len]; omega
                have hcell : cs[z.from_]? = some (.int .i64 ((hs.getD z.from_ 0 : Nat) : Int)) := by rw [hcs]; exact ints_at hlt3
                have hcell2 : (cs.setIfInBounds z.from_ (.int .i64 2))[z.from_]? = some (.int .i64 2) := by rw [Array.getElem?_setIfInBounds_self_of_lt (by rw [hcs, ints_size]; exact hlt3)]
                have hfI : (z.from_ : Int) < 256 := by omega
                have Hcs := Lib.hid hcs
                obtain ⟨Z10, mZ10, hZ10⟩ := m10.opened
                have HZ10 := Lib.hid hZ10
                clear hZ10 m9 mZ hcs hlt3
                by_cases hv : hs.getD z.from_ 0 = 0
                · rw [hv] at hcell
                  have hst := Hstep.out
                  rw [if_pos hv] at hst
                  have hno : noted (z.ans has) = if z.level = 1 ∧ 1 ≤ z.sure then 1 else 2 := rfl
                  rw [hno] at hst
                  have hthree : (((z.level : Int) == 1) = true ∧ decide ((1 : Int) ≤ (z.sure : Int)) = true ∧ decide (1 ≤ z.sure) = true ∧ (z.level = 1 ∧ 1 ≤ z.sure)) ∨ (¬ (z.level = 1 ∧ 1 ≤ z.sure) ∧ (((z.level : Int) == 1) = false ∨ (((z.level : Int) == 1) = true ∧ decide ((1 : Int) ≤ (z.sure : Int)) = false ∧ decide (1 ≤ z.sure) = false))) := by
                    by_cases c1 : z.level = 1
                    · by_cases c2 : 1 ≤ z.sure
                      · exact .inl ⟨by rw [c1]; rfl, by rw [decide_eq_true_iff]; omega, decide_eq_true c2, c1, c2⟩
                      · exact .inr ⟨fun h => c2 h.2, .inr ⟨by rw [c1]; rfl, by rw [decide_eq_false_iff_not]; omega, decide_eq_false c2⟩⟩
                    · exact .inr ⟨fun h => c1 h.1, .inl (beq_eq_false_iff_ne.2 (by omega))⟩
                  rcases hthree with ⟨b1, b2, b3, hc⟩ | ⟨hc, hb⟩
                  · rw [if_pos hc] at hst
                    have Hst := Lib.hid hst
                    clear hst hno hc hv
                    go_wp2_with fail
                    go_roundg (n2 - (i2 + 1))
                    case measure => omega
                    case rel => exact ⟨i2 + 1, hs.set z.from_ 1, s.cameS z has, by omega, rfl, by go_num, Hst, (HZ10.out _ (Go.Sl.blk gx (.cells z.cells 44) * (Go.Sl.blk gh (.cells (intsA (hs.set z.from_ 1)) 49) * F1)) (Mod.to (m := inferInstance) (by rw [← ints_set, ← Hcs.out]; simp only [emp_sep, Array.setIfInBounds_setIfInBounds]; ac_rfl))).drop⟩
                  · rw [if_neg hc] at hst
                    have Hst := Lib.hid hst
                    clear hst hno hc hv
                    rcases hb with b1 | ⟨b1, b2, b3⟩
                    all_goals
                      go_wp2_with fail
                      go_roundg (n2 - (i2 + 1))
                      case measure => omega
                      case rel => exact ⟨i2 + 1, hs.set z.from_ 2, s.cameS z has, by omega, rfl, by go_num, Hst, (HZ10.out _ (Go.Sl.blk gx (.cells z.cells 44) * (Go.Sl.blk gh (.cells (intsA (hs.set z.from_ 2)) 49) * F1)) (Mod.to (m := inferInstance) (by rw [← ints_set, ← Hcs.out]; simp only [emp_sep]; ac_rfl))).drop⟩
                · have b1 : (((hs.getD z.from_ 0 : Nat) : Int) == 0) = false := beq_eq_false_iff_ne.2 (by omega)
                  have hst := Hstep.out
                  rw [if_neg hv] at hst
                  have Hst := Lib.hid hst
                  clear hst hv Hstep
                  generalize hs.getD z.from_ 0 = hv at *
                  go_wp2_with fail
                  go_roundg (n2 - (i2 + 1))
                  case measure => omega
                  case rel => exact ⟨i2 + 1, hs, s.cameS z has, by omega, rfl, by go_num, Hst, by rw [← Hcs.out]; exact m10.drop⟩
              · rw [hz6] at h9; exact absurd h9 (by decide)
            · have hi3 : i2 = n2 := by omega
              subst hi3
              have hii2 : ¬ ((i2 : Int) < (i2 : Int)) := by omega
              go_wp2_with (go_at_call 11; refine (decide_heard Hk.out Hs.out h0 wr w0 _ m9).mono ?_; rintro e w12 ⟨C12, n12, ze, s', K12, ys12, rfl, m12, r12, hl12, hcase⟩)
              obtain ⟨Z, mZ, hZ⟩ := m12.opened
              have HZ := Lib.hid hZ
              obtain ⟨⟨bn1, on1, sp1⟩, hA1, hsp1, _⟩ := reads_cell mZ (reads_lift inferInstance r1') (by have := Hl1.out; omega)
              simp only at hsp1
              subst hsp1 hA1
              obtain ⟨cs, hcs⟩ : ∃ cs, cs = intsA hs := ⟨_, rfl⟩
              have Hcase := Lib.hid hcase
              have hi4 : i ≤ 4 := by have := Hk.out.chain.once.le; rw [Hl1.out] at this; exact this
              rw [← hcs] at mZ
              have HcsAt : Hid (∀ n, n ≤ 4 → cs[n]? = some (.int .i64 ((hs.getD n 0 : Nat) : Int))) := fun n hn => by rw [hcs]; exact ints_at (by rw [Hs.out.len]; omega)
              have Hcs := Lib.hid hcs
              clear hZ hcs hcase m12 m9
              go_wp2_with fail
              go_loopg [23, 24] i (fun gk bv iv wr => ∃ (t : Nat) (B4 : Option Addr) (c4 q : Nat) (l : List Nat), t ≤ i ∧ gk = i - t ∧ bv = .slice B4 q c4 ∧ iv = .int .i64 (t : Int) ∧ Hid (l = (first.take t).filter (fun n => decide (hs.getD n 0 = 1))) ∧ l.length = q ∧ q ≤ t ∧ Mod wr w0 (rowA 5 1 (.slice B4 q c4) q (n8s l) * (Z * (K12 * (Go.Sl.blk gh (.cells cs 49) * F1)))))
              case atStart => exact ⟨0, none, 0, 0, [], by omega, rfl, rfl, rfl, by rw [List.take_zero]; exact rfl, rfl, Nat.le_refl _, row_none_n mZ⟩
              case round =>
                obtain ⟨t, B4, c4, q, l, ht, hgk3, rfl, rfl, Hlk, hlq, hqt, m13⟩ := hrel
                by_cases hlt3 : t < i
                · have hii3 : (t : Int) < (i : Int) := by omega
                  have htl : t < first.length := by rw [Hl1.out]; exact hlt3
                  have hq : CellAt F1 bn1 (on1 + t) (vu8 (first.getD t 0)) := reads_at_cell r1' (by omega) t (n8_at htl)
                  have hn4 : 1 ≤ first.getD t 0 ∧ first.getD t 0 ≤ 4 := Hk.out.chain.once.2 _ (by rw [List.getD_eq_getElem?_getD, List.getElem?_eq_getElem htl]; exact List.getElem_mem _)
                  have hcell := HcsAt.out _ hn4.2
                  have Hf := Lib.hid (filter_take (fun n => decide (hs.getD n 0 = 1)) first t htl)
                  generalize first.getD t 0 = n at *
                  have hnI : (n : Int) < 256 := by omega
                  have hn0 : (0 : Int) ≤ (n : Int) := by omega
                  by_cases hv : hs.getD n 0 = 1
                  · have hf := Hf.out
                    rw [if_pos (decide_eq_true hv), ← Hlk.out] at hf
                    replace Hf := Lib.hid hf
                    rw [hv] at hcell
                    clear hf hv
                    go_wp2_with (at_builtin; (refine wpList_append (v := .slice B4 q c4) (k := 1) (c := 1) (news := [vu8 n]) (r := reads_blk rfl rfl) rfl rfl inferInstance rfl rfl (by simp [Value.oneCell']) (by unfold maxLen; omega) (by omega) ?_); intro A5 c5 w14 m14)
                    replace m14 := Mod.dropped (Go.Sl.blk wr.heap.size (.cells #[vu8 n] 5)) (m := m14)
                    simp only [emp_sep] at m14
                    go_roundg (i - (t + 1))
                    case measure => omega
                    case rel => exact ⟨t + 1, A5, c5, q + 1, l ++ [n], by omega, rfl, rfl, by go_num, Hf.out.symm, by rw [List.length_append, hlq]; rfl, by omega, by rw [show n8s (l ++ [n]) = n8s l ++ [vu8 n] by simp]; exact m14⟩
                  · have hf := Hf.out
                    rw [if_neg (by rw [decide_eq_true_eq]; exact hv), List.append_nil, ← Hlk.out] at hf
                    replace Hf := Lib.hid hf
                    have b1 : (((hs.getD n 0 : Nat) : Int) == 1) = false := beq_eq_false_iff_ne.2 (by omega)
                    clear hf hv
                    generalize hs.getD n 0 = hv at *
                    go_wp2_with fail
                    go_roundg (i - (t + 1))
                    case measure => omega
                    case rel => exact ⟨t + 1, B4, c4, q, l, by omega, rfl, rfl, by go_num, Hf.out.symm, hlq, by omega, m13⟩
                · have htI : t = i := by omega
                  subst htI
                  have hii3 : ¬ ((t : Int) < (t : Int)) := by omega
                  have HL : Hid (l = keptOf2 first hs) := by show _ = _; rw [Hlk.out, ← Hl1.out, List.take_length]; rfl
                  by_cases hz : q = 0
                  · subst hz
                    have hl0 : l = [] := List.eq_nil_of_length_eq_zero hlq
                    have hk0 : keptOf2 first hs = [] := by rw [← HL.out]; exact hl0
                    rcases Hcase.out with ⟨hne, _⟩ | ⟨_, hze | ⟨hn1', hze, hix⟩⟩
                    · exact absurd hk0 hne
                    · subst hze
                      go_wp2_with (go_at_call 7; refine (lives_spec _ w0 _ inferInstance).mono ?_; rintro e w15 ⟨rfl, m15⟩)
                      go_ret
                      exact ⟨rfl, (Mod.sub F1 (m := m15)).sub S⟩
                    · subst hn1' hze
                      match ys12, hl12 with
                      | [yo], _ =>
                        have hyi : yo.index = 2 := hix 0 (show 0 < 1 from Nat.one_pos)
                        obtain ⟨⟨bC, oC, sC⟩, hC, hsC, hxx⟩ := reads_cell m13 (reads_lift inferInstance r12) (by decide)
                        clear hxx
                        simp only at hsC
                        subst hsC hC
                        have k6 : CellAt K12 bC (oC + 6) (.int .u64 2) := reads_at_cell r12 (by decide) 6 (by simp only [List.flatMap_cons, List.flatMap_nil, List.append_nil]; show some (vu64 yo.index) = _; rw [hyi]; rfl)
                        clear hix hyi
                        go_wp2_with (go_at_call 7; refine (lives_spec _ w0 _ inferInstance).mono ?_; rintro e w15 ⟨rfl, m15⟩)
                        go_ret
                        exact ⟨rfl, (Mod.sub F1 (m := m15)).sub S⟩
                  · have hz1 : ((q : Int) == 0) = false := beq_eq_false_iff_ne.2 (by omega)
                    have hj4 : n3 ≤ 4 := by
                      have hl3 : join.length = n3 := by have := reads_len m13 (reads_lift inferInstance r3'); simpa using this
                      have := Hs.out.ok.room Hs.out.seals
                      rw [Hs.out.joinE] at this; omega
                    have Hl3 : Hid (join.length = n3) := by show _ = _; have := reads_len m13 (reads_lift inferInstance r3'); simpa using this
                    have Hj14 : Hid (∀ n ∈ join, 1 ≤ n ∧ n ≤ 4) := by have := Hs.out.ok.jn4 Hs.out.seals; rw [Hs.out.joinE] at this; exact this
                    have Hlk2 : Hid (l = (l ++ (join.take 0).filter (fun n => decide (hs.getD n 0 ≠ 0)))) := by show _ = _; simp
                    go_wp2_with fail
                    go_loopg [23, 25] n3 (fun gk bv iv wr => ∃ (t2 : Nat) (B5 : Option Addr) (c5 q2 : Nat) (l2 : List Nat), t2 ≤ n3 ∧ gk = n3 - t2 ∧ bv = .slice B5 q2 c5 ∧ iv = .int .i64 (t2 : Int) ∧ Hid (l2 = l ++ (join.take t2).filter (fun n => decide (hs.getD n 0 ≠ 0))) ∧ l2.length = q2 ∧ q2 ≤ q + t2 ∧ Mod wr w0 (rowA 5 1 (.slice B5 q2 c5) q2 (n8s l2) * (Z * (K12 * (Go.Sl.blk gh (.cells cs 49) * F1)))))
                    case atStart => exact ⟨0, B4, c4, q, l, by omega, rfl, rfl, rfl, Hlk2, hlq, by omega, m13⟩
                    case round =>
                      obtain ⟨t2, B5, c5, q2, l2, ht2, hgk4, rfl, rfl, Hlk3, hlq2, hqt2, m16⟩ := hrel
                      by_cases hlt4 : t2 < n3
                      · have hii4 : (t2 : Int) < (n3 : Int) := by omega
                        have htl : t2 < join.length := by rw [Hl3.out]; exact hlt4
                        obtain ⟨⟨bn3, on3, sp3⟩, hA3, hsp3, hxx⟩ := reads_cell m16 (reads_lift inferInstance r3') (by omega)
                        clear hxx
                        simp only at hsp3
                        subst hsp3 hA3
                        have hq : CellAt F1 bn3 (on3 + t2) (vu8 (join.getD t2 0)) := reads_at_cell r3' (by omega) t2 (n8_at htl)
                        have hn4 : 1 ≤ join.getD t2 0 ∧ join.getD t2 0 ≤ 4 := Hj14.out _ (by rw [List.getD_eq_getElem?_getD, List.getElem?_eq_getElem htl]; exact List.getElem_mem _)
                        have hcell := HcsAt.out _ hn4.2
                        have Hf := Lib.hid (filter_take (fun n => decide (hs.getD n 0 ≠ 0)) join t2 htl)
                        generalize join.getD t2 0 = n at *
                        have hnI : (n : Int) < 256 := by omega
                        have hn0 : (0 : Int) ≤ (n : Int) := by omega
                        by_cases hv : hs.getD n 0 ≠ 0
                        · have hf := Hf.out
                          rw [if_pos (decide_eq_true hv)] at hf
                          replace Hf : Hid (l2 ++ [n] = l ++ (join.take (t2 + 1)).filter (fun n => decide (hs.getD n 0 ≠ 0))) := by show _ = _; rw [hf, Hlk3.out, List.append_assoc]
                          have b1 : (((hs.getD n 0 : Nat) : Int) != 0) = true := by rw [bne_iff_ne]; omega
                          clear hf hv
                          generalize hs.getD n 0 = hv at *
                          go_wp2_with (at_builtin; (refine wpList_append (v := .slice B5 q2 c5) (k := 1) (c := 1) (news := [vu8 n]) (r := reads_blk rfl rfl) rfl rfl inferInstance rfl rfl (by simp [Value.oneCell']) (by unfold maxLen; omega) (by omega) ?_); intro A5 c6 w14 m14)
                          replace m14 := Mod.dropped (Go.Sl.blk wr.heap.size (.cells #[vu8 n] 5)) (m := m14)
                          simp only [emp_sep] at m14
                          go_roundg (n3 - (t2 + 1))
                          case measure => omega
                          case rel => exact ⟨t2 + 1, A5, c6, q2 + 1, l2 ++ [n], by omega, rfl, rfl, by go_num, Hf, by rw [List.length_append, hlq2]; rfl, by omega, by rw [show n8s (l2 ++ [n]) = n8s l2 ++ [vu8 n] by simp]; exact m14⟩
                        · have hf := Hf.out
                          rw [if_neg (by rw [decide_eq_true_eq]; exact hv), List.append_nil] at hf
                          replace Hf : Hid (l2 = l ++ (join.take (t2 + 1)).filter (fun n => decide (hs.getD n 0 ≠ 0))) := by show _ = _; rw [hf, Hlk3.out]
                          have b1 : (((hs.getD n 0 : Nat) : Int) != 0) = false := by rw [bne_eq_false_iff_eq]; omega
                          clear hf hv
                          generalize hs.getD n 0 = hv at *
                          go_wp2_with fail
                          go_roundg (n3 - (t2 + 1))
                          case measure => omega
                          case rel => exact ⟨t2 + 1, B5, c5, q2, l2, by omega, rfl, rfl, by go_num, Hf, hlq2, by omega, m16⟩
                      · have htI2 : t2 = n3 := by omega
                        subst htI2
                        have hii4 : ¬ ((t2 : Int) < (t2 : Int)) := by omega
                        have HL2 : Hid (l2 = keptOf2 first hs ++ joinedOf join hs) := by show _ = _; rw [Hlk3.out, HL.out, ← Hl3.out, List.take_length]; rfl
                        obtain ⟨L, hL⟩ : ∃ L, keptOf2 first hs ++ joinedOf join hs = L := ⟨_, rfl⟩
                        have HL3 := Lib.hid hL
                        rcases Hcase.out with ⟨hne, hze, hok', hnk, hnL, hys⟩ | ⟨hk0, _⟩
                        rotate_left
                        · rw [← HL.out] at hk0; rw [hk0] at hlq; exact absurd hlq.symm hz
                        rw [hL] at hnk hnL hys
                        have hl2L : l2 = L := by rw [HL2.out, hL]
                        subst hl2L hze
                        have hqn : n12 = q2 := by rw [hnL, hlq2]
                        subst hqn
                        have hmany : s'.kn.many = n12 := by rw [hnk.chain.many, hlq2]
                        have hnod : s'.kn.nodes = l2 := hnk.chain.nodes
                        have hep : s'.kn.epoch = 2 := hnk.epoch
                        have hn12 : 1 ≤ n12 ∧ n12 ≤ 4 := by
                          have := hnk.chain.once.le
                          refine ⟨?_, by omega⟩
                          have h5 : 0 < (keptOf2 first hs).length := List.length_pos_iff.2 hne
                          rw [← hlq2, ← hL, List.length_append]; omega
                        have Hys := Lib.hid hys
                        clear hL Hcase hne hnL hys hnk HL2 HL3 HL Hlk Hlk2 Hlk3
                        have hM := chain_st x p s' hok'
                        rw [hmany, hnod] at hM
                        have hE := epoch_st x p s'
                        rw [hep] at hE
                        have HM := Lib.hid hM
                        have HE := Lib.hid hE
                        clear hM hE hmany hnod hep hok'
                        go_wp2_with (go_at_call 13; refine (HM.out _ w0 _ (HZ.out _ _ (Mod.pull Z))).mono ?_; rintro e w17 ⟨A17, c17, rfl, m17⟩)
                        obtain ⟨Z17, mZ17, hZ17⟩ := m17.opened
                        have HZ17 := Lib.hid hZ17
                        clear hZ17
                        refine (HE.out w17 w0 _ (HZ17.out _ _ mZ17)).mono ?_
                        rintro e w18 ⟨rfl, m18⟩
                        obtain ⟨Z18, mZ18, _⟩ := m18.opened
                        clear mZ17 m17 HZ17 HM HE m16
                        obtain ⟨⟨bl, ol, sl⟩, hAl, hsl, hx1⟩ := reads_cell mZ18 (reads_lift inferInstance (Reads.row 5 A17 n12 c17 (n8s l2))) (by omega)
                        obtain ⟨⟨bw, ow, sw⟩, hAw, hsw, hx2⟩ := reads_cell mZ18 (reads_lift inferInstance (Reads.row 5 B5 n12 c5 (n8s l2))) (by omega)
                        obtain ⟨⟨bo, oo, so⟩, hAo, hso, hx3⟩ := reads_cell mZ18 (reads_lift inferInstance r12) (by omega)
                        clear hx1 hx2 hx3
                        simp only at hsl hsw hso
                        subst hsl hsw hso hAl hAw hAo
                        clear m18
                        go_wp2_with fail
                        go_loopg [27] n12 (fun gk iv wr => ∃ t6 : Nat, t6 ≤ n12 ∧ gk = n12 - t6 ∧ iv = .int .i64 (t6 : Int) ∧ Mod wr w0 (Z18 * (rowA 5 1 (.slice (some ⟨bl, ol, none⟩) n12 c17) n12 (n8s l2) * (rowA 5 1 (.slice (some ⟨bw, ow, none⟩) n12 c5) n12 (n8s l2) * (K12 * (Go.Sl.blk gh (.cells cs 49) * F1))))))
                        case atStart => exact ⟨0, by omega, rfl, rfl, mZ18⟩
                        case round =>
                          obtain ⟨t6, ht6, hgk6, rfl, m19⟩ := hrel
                          by_cases hlt6 : t6 < n12
                          · have hii6 : (t6 : Int) < (n12 : Int) := by omega
                            have htl : t6 < l2.length := by rw [hlq2]; exact hlt6
                            have hy := Hys.out t6 (by rw [hl12]; exact hlt6)
                            have hyl : t6 < ys12.length := by rw [hl12]; exact hlt6
                            have k1 : CellAt (rowA 5 1 (.slice (some ⟨bl, ol, none⟩) n12 c17) n12 (n8s l2)) bl (ol + t6) (vu8 (l2.getD t6 0)) := reads_at_cell (Reads.row 5 _ n12 c17 (n8s l2)) (by omega) t6 (n8_at htl)
                            have k2 : CellAt (rowA 5 1 (.slice (some ⟨bw, ow, none⟩) n12 c5) n12 (n8s l2)) bw (ow + t6) (vu8 (l2.getD t6 0)) := reads_at_cell (Reads.row 5 _ n12 c5 (n8s l2)) (by omega) t6 (n8_at htl)
                            have k3 : CellAt K12 bo (oo + t6 * 16 + 2) (vu8 (l2.getD t6 0)) := by rw [Nat.add_assoc, ← hy.1]; exact reads_at_cell r12 (by omega) _ (msg_cell ys12 t6 2 _ hyl rfl)
                            have k4 : CellAt K12 bo (oo + t6 * 16 + 6) (.int .u64 0) := by rw [Nat.add_assoc]; exact reads_at_cell r12 (by omega) _ (msg_cell ys12 t6 6 _ hyl (by show some (vu64 ys12[t6].index) = _; rw [hy.2.1]; rfl))
                            have k5 : CellAt K12 bo (oo + t6 * 16 + 3) (.int .u32 2) := by rw [Nat.add_assoc]; exact reads_at_cell r12 (by omega) _ (msg_cell ys12 t6 3 _ hyl (by show some (vu32 ys12[t6].epoch) = _; rw [hy.2.2]; rfl))
                            clear hy htl hyl
                            generalize l2.getD t6 0 = n at *
                            go_wp2_with fail
                            go_quiet (fail)
                            go_wp2_with fail
                            go_roundg (n12 - (t6 + 1))
                            case measure => omega
                            case rel => exact ⟨t6 + 1, by omega, rfl, by go_num, inferInstance⟩
                          · have htI6 : t6 = n12 := by omega
                            subst htI6
                            have hii6 : ¬ ((t6 : Int) < (t6 : Int)) := by omega
                            go_wp2_with (go_at_call 7; refine (lives_spec _ w0 _ m19).mono ?_; rintro e w20 ⟨rfl, m20⟩)
                            go_ret
                            exact ⟨rfl, (Mod.sub F1 (m := m20)).sub S⟩
theorem decidersKeep_walk (A1 : Option Addr) (n1 c1 : Nat) (A2 : Option Addr) (n2 c2 : Nat) (A3 : Option Addr) (n3 c3 : Nat) (w w0 : World) (S : Asn) [m : Mod w w0 S] (hs : (∃ l : List Nat, Reads S A1 n1 (n8s l) ∧ n1 ≤ c1 ∧ n1 ≤ 140737488355328) ∧ (∃ l, ReadsMsgs S A2 n2 l ∧ n2 ≤ 9223372036854775807) ∧ ∃ l : List Nat, Reads S A3 n3 (n8s l) ∧ n3 ≤ c3 ∧ n3 ≤ 140737488355328) :
    Calls Tryz.prog 4 #[.slice A1 n1 c1, .slice A2 n2 c2, .slice A3 n3 c3] w fun e w' => e = .returned (.bool true) ∧ Mod w' w0 S := by
  obtain ⟨⟨l, r1, h1, h2⟩, ⟨ms, r2, h3⟩, ⟨l3, r3, h4, h5⟩⟩ := hs
  exact decidersKeep_run A1 n1 c1 l A2 n2 c2 ms A3 n3 c3 l3 w w0 S r1 h1 h2 r2 h3 r3 h4 h5
end Go.Proofs.YtmpgnnjhgjfgaaaGreatDoor
