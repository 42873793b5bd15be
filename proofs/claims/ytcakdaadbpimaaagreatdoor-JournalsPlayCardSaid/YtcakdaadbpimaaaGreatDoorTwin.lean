/- TwinBytes and LeftBytes: a copy with a mark in the room behind it, and the look whether it is still that. -/
import Derived.Test.YtcakdaadbpimaaaGreatDoorSame5
import Derived.Test.YtcakdaadbpimaaaGreatDoorRowOpen
import Derived.Deep.QuietTactic
import Derived.BigQuiet
namespace Go.Proofs.YtcakdaadbpimaaaGreatDoor
open Go.RowKit Go.Sl
theorem make_room (w : World) (n : Int) (h0 : 0 ≤ n) (h : n ≤ 281474976710656) : (Instr.makeSlice 46 (.int .i64 0) (.int .i64 n)).run Tryz.prog w = .ok (.slice (some ⟨w.heap.size, 0, none⟩) 0 n.toNat) (w.alloc (.cells (madeCells #[.int .u8 0] n.toNat) 5)) := by
  obtain ⟨i, hi, hz, hs, hb⟩ := info_u8
  have := run_make w 46 5 i (.int .u8 0) (by kernel_rfl) hi hz .i64 .i64 0 n (Int.le_refl 0) h0 (by rw [hb]; omega) (by omega)
  rw [this, hs, Nat.mul_one]
  rfl
attribute [local go_sem] cell_of cellAt_of frozen_of make_room
set_option maxRecDepth 4000 in
set_option maxHeartbeats 2000000 in
theorem twin_spec (B : Option Addr) (n cB : Nat) (xs : List UInt8) (w w0 : World) (S : Asn) (m : Mod w w0 S) (r : Reads S B n (u8s xs)) (hn : n ≤ 1000000) : Calls Tryz.prog 10 #[.slice B n cB] w fun e w' => ∃ A c, e = .returned (.slice A n c) ∧ Mod w' w0 (rowA 5 1 (.slice A (n + 1) c) (n + 1) (u8s (xs ++ [77])) * S) := by
  have hl : xs.length = n := by have := reads_len m r; rwa [length_u8s] at this
  have h0 : (0 : Int) ≤ (n : Int) + 1 := by omega
  have h1 : (n : Int) + 1 ≤ 281474976710656 := by omega
  go_enter Tryz.func10, Tryz.ntmps10
  go_wp2_with fail
  have mb : Mod (w.alloc (.cells (madeCells #[.int .u8 0] (((n : Int) + 1)).toNat) 5)) w0 (Go.Sl.blk w.heap.size (.cells (madeCells #[.int .u8 0] (((n : Int) + 1)).toNat) 5 (0, 0)) * S) := inferInstance
  have mS := row_shut (n := 0) (c := n + 1) (xs := []) mb (Nat.zero_le _) (by unfold maxLen; omega) (by rw [size_madeCells]; omega) rfl rfl
  clear mb m
  go_loopg [3, 4] n (fun gk ov iv wr => ∃ (i : Nat) (A : Option Addr) (c : Nat), i ≤ n ∧ gk = n - i ∧ ov = .slice A i c ∧ iv = .int .i64 (i : Int) ∧ Mod wr w0 (rowA 5 1 (.slice A i c) i (u8s (xs.take i)) * S))
  case atStart => exact ⟨0, some ⟨w.heap.size, 0, none⟩, n + 1, Nat.zero_le _, rfl, rfl, rfl, mS⟩
  case round =>
    obtain ⟨i, A, c, hi, hgk, rfl, rfl, m1⟩ := hrel
    by_cases hlt : i < n
    · have hii : (i : Int) < (n : Int) := by omega
      have hil : i < xs.length := by rw [hl]; exact hlt
      obtain ⟨ad, rfl, hsp, _⟩ := reads_cell m1 (inferInstance : Reads _ B n (u8s xs)) (by omega)
      obtain ⟨b, o, sp⟩ := ad
      simp only at hsp
      subst hsp
      have k1 : CellAt S b (o + i) (.int .u8 (xs[i].toNat : Int)) := reads_at_cell r (by omega) i (by simp [u8s, hil])
      have HT : Hid (u8s (xs.take i) ++ [.int .u8 (xs[i].toNat : Int)] = u8s (xs.take (i + 1))) := by show _ = _; rw [List.take_succ_eq_append_getElem hil, u8s_append]; rfl
      generalize xs[i] = x at *
      go_wp2_with (at_builtin; refine wpList_mod (w0 := w0) ?_; intro mw; have mx := Mod.pull (m := mw) (rowA 5 1 (.slice A i c) i (u8s (xs.take i))); refine wpList_append_n (t := 46) (size := 1) (k := 1) (c := 1) (A := ⟨wr.heap.size, 0, none⟩) (news := [.int .u8 (x.toNat : Int)]) rfl rfl mx rfl rfl (reads_blk rfl rfl) (by decide) (by simp [Value.oneCell']) (by unfold maxLen; omega) (by omega) ?_; clear mw mx; intro A2 c2 w2 m4)
      rw [HT.out] at m4
      go_roundg (n - (i + 1))
      case measure => omega
      case rel => exact ⟨i + 1, A2, c2, hlt, rfl, rfl, by go_num, Mod.drop (A := Go.Sl.blk wr.heap.size (.cells #[.int .u8 (x.toNat : Int)] 5)) (m := Mod.to (m := m4) (sep_left_comm _ _ _))⟩
    · have hin : i = n := by omega
      have hii : ¬ (i : Int) < (n : Int) := by omega
      subst hin
      rw [List.take_of_length_le (by omega)] at m1
      have HT : Hid (u8s xs ++ [.int .u8 77] = u8s (xs ++ [77])) := by show _ = _; rw [u8s_append]; rfl
      go_wp2_with (at_builtin; refine wpList_mod (w0 := w0) ?_; intro mw; have mx := Mod.pull (m := mw) (rowA 5 1 (.slice A i c) i (u8s xs)); refine wpList_append_n (t := 46) (size := 1) (k := 1) (c := 1) (A := ⟨wr.heap.size, 0, none⟩) (news := [.int .u8 77]) rfl rfl mx rfl rfl (reads_blk rfl rfl) (by decide) (by simp [Value.oneCell']) (by unfold maxLen; omega) (by omega) ?_; clear mw mx; intro A2 c2 w2 m4; have hc2 := row_len_cap m4)
      rw [HT.out] at m4
      go_wp2_with fail
      go_ret
      exact ⟨A2, c2, rfl, Mod.drop (A := Go.Sl.blk wr.heap.size (.cells #[.int .u8 77] 5)) (m := Mod.to (m := m4) (sep_left_comm _ _ _))⟩
set_option maxRecDepth 4000 in
set_option maxHeartbeats 2000000 in
theorem leftBytes_spec (A B : Option Addr) (n c cB : Nat) (xs : List UInt8) (w w0 : World) (S : Asn) (m : Mod w w0 S) (r1 : Reads S A (n + 1) (u8s (xs ++ [77]))) (r2 : Reads S B n (u8s xs)) (hc : n + 1 ≤ c) (hn : n ≤ 1000000) : Calls Tryz.prog 34 #[.slice A n c, .slice B n cB] w fun e w' => e = .returned (.bool true) ∧ Mod w' w0 S := by
  have hl : xs.length = n := by have := reads_len m r2; rwa [length_u8s] at this
  have hci : (n : Int) < (c : Int) := by omega
  obtain ⟨ad, rfl, hsp, _⟩ := reads_cell m r1 (by omega)
  obtain ⟨b, o, sp⟩ := ad
  simp only at hsp
  subst hsp
  have kL : CellAt S b (o + n) (.int .u8 77) := reads_at_cell r1 (by omega) n (by simp [u8s, ← hl])
  have r1' : ∀ i (h : i < xs.length), CellAt S b (o + i) (.int .u8 (xs[i].toNat : Int)) := fun i h => reads_at_cell r1 (by omega) i (by rw [u8s_append, List.getElem?_append_left (by rw [length_u8s]; exact h)]; simp [u8s, h])
  have Hr1 := Lib.hid r1'
  clear r1 r1'
  go_enter Tryz.func34, Tryz.ntmps34
  go_wp2_with fail
  go_loopg [5] n (fun gk iv wr => ∃ i : Nat, i ≤ n ∧ gk = n - i ∧ iv = .int .i64 (i : Int) ∧ Mod wr w0 S)
  case atStart => exact ⟨0, Nat.zero_le _, rfl, rfl, m⟩
  case round =>
    obtain ⟨i, hi, hgk, rfl, m1⟩ := hrel
    by_cases hlt : i < n
    · have hii : (i : Int) < (n : Int) := by omega
      have hil : i < xs.length := by rw [hl]; exact hlt
      obtain ⟨ad, rfl, hsp, _⟩ := reads_cell m1 r2 (by omega)
      obtain ⟨b2, o2, sp⟩ := ad
      simp only at hsp
      subst hsp
      have k1 : CellAt S b2 (o2 + i) (.int .u8 (xs[i].toNat : Int)) := reads_at_cell r2 (by omega) i (by simp [u8s, hil])
      have k2 := Hr1.out i hil
      clear r2 hl
      generalize xs[i] = x at *
      go_wp2_with fail
      go_quiet (fail)
      go_wp2_with fail
      go_roundg (n - (i + 1))
      case measure => omega
      case rel => exact ⟨i + 1, hlt, rfl, by go_num, Mod.drewN (m := m1) nq⟩
    · have hin : i = n := by omega
      have hii : ¬ (i : Int) < (n : Int) := by omega
      subst hin
      have M1 := Lib.hid m1
      go_wp2_with fail
      go_ret
      exact ⟨rfl, M1.out⟩
end Go.Proofs.YtcakdaadbpimaaaGreatDoor
