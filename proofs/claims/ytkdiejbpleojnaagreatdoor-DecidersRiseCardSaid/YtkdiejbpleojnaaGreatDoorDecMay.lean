/- The walk of knows' may: a contract over the small separation logic; the conditions are in the theorem. -/
import Derived.Test.YtkdiejbpleojnaaGreatDoorDecReset
import Derived.Deep.LoopGhost
namespace Go.Proofs.YtkdiejbpleojnaaGreatDoor
open Go.RowKit Go.Sl
attribute [local go_sem] cell_of cellAt_of frozen_of zero_names Kn.at0 Kn.at1 Kn.at2 Kn.at3 Kn.at4 Kn.at5 Kn.at6 Kn.at7 Kn.at8 Kn.at9 Kn.at10
theorem four_chain {k : Kn} (hk : KnOk k) : k.four = k.chain := by
  obtain ⟨a, b, c, d, e⟩ := four_of hk.chainL
  unfold Kn.four Kn.c
  rw [e]; rfl
theorem reads_chain {S : Asn} {g : Nat} {k : Kn} {t : TypeId} (h : Has S g (.cells k.cells t (0, 0))) {i : Nat} (hi : i ≤ 4) : Reads S (some ⟨g, 7, none⟩) i (n8s (k.four.take i)) :=
  ⟨fun y _ => by simp [Kn.four, hi], fun y hy _ => ⟨_, rfl, rfl, fun j u hu => ⟨k.cells, t, (0, 0), h.has y hy, by
    have hj : j < 4 ∧ j < i := by
      have := (List.getElem?_eq_some_iff.1 hu).1
      simp [Kn.four] at this
      omega
    have hu2 : (n8s k.four)[j]? = some u := by
      rw [← hu]
      simp only [n8s, List.map_take]
      rw [List.getElem?_take_of_lt hj.2]
    rw [← hu2]
    match j, hj.1 with
    | 0, _ => rfl
    | 1, _ => rfl
    | 2, _ => rfl
    | 3, _ => rfl⟩⟩⟩
set_option maxRecDepth 100000 in
theorem index_f0 (a b c d : Value) (w : World) : (Instr.index 166 (.agg #[a, b, c, d]) (.int .i64 0)).run Tryz.prog w = .ok a w := by kernel_rfl
set_option maxRecDepth 100000 in
theorem index_f1 (a b c d : Value) (w : World) : (Instr.index 166 (.agg #[a, b, c, d]) (.int .i64 1)).run Tryz.prog w = .ok b w := by kernel_rfl
set_option maxRecDepth 100000 in
theorem index_f2 (a b c d : Value) (w : World) : (Instr.index 166 (.agg #[a, b, c, d]) (.int .i64 2)).run Tryz.prog w = .ok c w := by kernel_rfl
set_option maxRecDepth 100000 in
theorem index_f3 (a b c d : Value) (w : World) : (Instr.index 166 (.agg #[a, b, c, d]) (.int .i64 3)).run Tryz.prog w = .ok d w := by kernel_rfl
theorem index_four (k : Kn) (i : Nat) (h : i < 4) (w : World) : (Instr.index 166 (.agg #[vu8 (k.c 0), vu8 (k.c 1), vu8 (k.c 2), vu8 (k.c 3)]) (.int .i64 (i : Int))).run Tryz.prog w = .ok (vu8 (k.c i)) w := by
  match i, h with
  | 0, _ => exact index_f0 _ _ _ _ w
  | 1, _ => exact index_f1 _ _ _ _ w
  | 2, _ => exact index_f2 _ _ _ _ w
  | 3, _ => exact index_f3 _ _ _ _ w
set_option maxRecDepth 4000 in
set_option maxHeartbeats 4000000 in
theorem kmay_spec (k : Kn) (hk : KnOk k) (hm : KnMay k) (w w0 : World) (S : Asn) (m : Mod w w0 S) : Calls Tryz.prog 204 #[.agg k.cells] w fun e w' => e = .returned (.bool true) ∧ Mod w' w0 S := by
  have Hk := Lib.hid hk
  have Hm := Lib.hid hm
  clear hk hm
  go_enter Tryz.func204, Tryz.ntmps204
  go_wp2_with first | (refine wpList_load_kn rfl rfl rfl ?_) | (refine wpList_store_kn0 rfl rfl rfl rfl rfl ?_; intro w3 m3)
  have hsz : w.heap.size = w.heap.size := rfl
  obtain ⟨fr, hfr⟩ : ∃ fr, fr = #[vu8 (k.c 0), vu8 (k.c 1), vu8 (k.c 2), vu8 (k.c 3)] := ⟨_, rfl⟩
  rw [← hfr]
  have Hfr := Lib.hid hfr
  clear hfr hsz
  go_loopg [7] 4 (fun gk iv wr => ∃ i : Nat, i ≤ 4 ∧ gk = 4 - i ∧ iv = .int .i64 (i : Int) ∧ Mod wr w0 (Go.Sl.blk w.heap.size (.cells k.cells 171) * S))
  case atStart => exact ⟨0, by omega, rfl, rfl, inferInstance⟩
  case round =>
    obtain ⟨i, hi, hgk, rfl, m1⟩ := hrel
    by_cases hlt : i < 4
    · have hii : (i : Int) < 4 := by omega
      have hi0 : (0 : Int) ≤ (i : Int) := by omega
      have hfi : ∀ w : World, (Instr.index 166 (.agg fr) (.int .i64 (i : Int))).run Tryz.prog w = .ok (vu8 (k.c i)) w := fun w => by rw [Hfr.out]; exact index_four k i hlt w
      have hil : i < k.chain.length := by rw [Hk.out.chainL]; exact hlt
      have hci : k.c i = k.chain[i] := by unfold Kn.c; rw [List.getD_eq_getElem?_getD, List.getElem?_eq_getElem hil]; rfl
      have h1 := Hm.out.small _ (List.getElem_mem hil)
      have h2 := Hm.out.full i hil
      have h3 := Hm.out.once i hil
      rw [← hci] at h1 h2 h3
      have rc := reads_chain (S := Go.Sl.blk w.heap.size (.cells k.cells 171) * S) (g := w.heap.size) (k := k) (t := 171) inferInstance (i := i) hi
      rw [four_chain Hk.out] at rc
      have Rc := Lib.hid rc
      have hle : (i : Int) ≤ 4 := by omega
      have hn4 : ¬ (4 : Int) < ((k.c i : Nat) : Int) := by omega
      have hm4 : (k.many : Int) ≤ 4 := by have := Hk.out.many; omega
      clear hci rc h1
      generalize k.c i = n at *
      by_cases him : i < k.many
      · have hn0 : 0 < n := h2.2 him
        have hd := decide_eq_false (h3 hn0)
        have hnI : (0 : Int) < (n : Int) := by omega
        have hmI : (i : Int) < (k.many : Int) := by omega
        clear h2 h3
        go_wp2_with (go_at_call 125; refine (contains_spec (some ⟨w.heap.size, 7, none⟩) i 4 (k.chain.take i) n _ w0 _ inferInstance Rc.out (by omega)).mono ?_; rintro e w4 ⟨he, m4⟩; rw [hd] at he; subst he)
        go_roundg (4 - (i + 1))
        case measure => omega
        case rel => exact ⟨i + 1, by omega, rfl, by go_num, inferInstance⟩
      · have hn0 : n = 0 := by have := mt h2.1 him; omega
        subst hn0
        have hmI : ¬ (i : Int) < (k.many : Int) := by omega
        clear h2 h3
        go_wp2_with fail
        go_roundg (4 - (i + 1))
        case measure => omega
        case rel => exact ⟨i + 1, by omega, rfl, by go_num, inferInstance⟩
    · have hi4 : i = 4 := by omega
      subst hi4
      have e1 : (k.many : Int) ≤ 4 := by have := Hk.out.many; omega
      have e2 : (k.holder : Int) ≤ 4 := by have := Hm.out.holder; omega
      have e3 : k.epoch ≤ k.most := Hm.out.epoch
      go_wp2_with fail
      go_ret
      exact ⟨rfl, Mod.drop (m := m1)⟩
end Go.Proofs.YtkdiejbpleojnaaGreatDoor
