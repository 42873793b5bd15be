/- The walks of the laws' sizes of what came in: contracts over the small separation logic; the conditions are in each theorem. -/
import Derived.Test.YtkdiejbpleojnaaGreatDoorSizeArgs
import Derived.Deep.QuietTactic
import Derived.BigQuiet
namespace Go.Proofs.YtkdiejbpleojnaaGreatDoor
open Go.ChangeShapes Go.WideShapes Go.ChangeAt Go.RowKit Go.Sl Go.Deep
attribute [local go_sem] cell_of cellAt_of frozen_of zero_names
section
variable {H : Type} {enc : TypeId × Value → H} {W : World} {base : Nat} {held : Bool}
set_option maxRecDepth 100000 in
theorem cells_row : Tryz.prog.cellsOf 233 = 2 := by kernel_rfl
set_option maxRecDepth 100000 in
theorem cells_change : Tryz.prog.cellsOf 239 = 3 := by kernel_rfl
set_option maxRecDepth 100000 in
theorem lies_row {cs : List Value} (h : Lies enc W base held 233 cs) : ∃ k v : ByteArray, cs = [.string k, .string v] := by
  obtain ⟨f, x, h⟩ := h
  obtain ⟨xs, k, hk, hxy, hl, hxl, hf⟩ := DataW.trod_struct Tryz.underlying233 h
  rw [cells_row] at hl
  match xs, hxl, cs, hl with
  | [y0, y1], _, [v0, v1], _ =>
    have g0 := hf 0 _ rfl
    have g1 := hf 1 _ rfl
    simp [cells_string] at g0 g1
    obtain ⟨s0, e0, _, _⟩ := DataW.trod_string Tryz.underlying9 g0
    obtain ⟨s1, e1, _, _⟩ := DataW.trod_string Tryz.underlying9 g1
    simp at e0 e1
    exact ⟨s0, s1, by rw [e0, e1]⟩
set_option maxRecDepth 100000 in
theorem lies_change {cs : List Value} (h : Lies enc W base held 239 cs) : ∃ (k v : ByteArray) (b : Bool), cs = [.string k, .string v, .bool b] := by
  obtain ⟨f, x, h⟩ := h
  obtain ⟨xs, k, hk, hxy, hl, hxl, hf⟩ := DataW.trod_struct Tryz.underlying239 h
  rw [cells_change] at hl
  match xs, hxl, cs, hl with
  | [y0, y1, y2], _, [v0, v1, v2], _ =>
    have g0 := hf 0 _ rfl
    have g1 := hf 1 _ rfl
    have g2 := hf 2 _ rfl
    simp [cells_string, cells_bool] at g0 g1 g2
    obtain ⟨s0, e0, _, _⟩ := DataW.trod_string Tryz.underlying9 g0
    obtain ⟨s1, e1, _, _⟩ := DataW.trod_string Tryz.underlying9 g1
    obtain ⟨b2, e2, _⟩ := DataW.trod_bool Tryz.underlying4 g2
    simp at e0 e1 e2
    exact ⟨s0, s1, b2, by rw [e0, e1, e2]⟩
set_option maxRecDepth 4000 in
set_option maxHeartbeats 1000000 in
theorem rows_size (a : Option Addr) (n c : Nat) (h : Lies enc W base held 93 [.slice a n c]) (w w0 : World) (S : Asn) (m : Mod w w0 S) (s : Sub S (just (hp W))) : Calls Tryz.prog 197 #[.slice a n c] w fun e w' => (∃ z : Int, e = .returned (.int .i64 z)) ∧ Mod w' w0 S := by
  obtain ⟨L, r, hnc, hc, hel⟩ := h.cells Tryz.underlying93 cells_row (by decide)
  have r2 := reads_lift s r
  have Hel := Lib.hid hel
  clear hel r h
  go_enter Tryz.func197, Tryz.ntmps197
  go_wp2_with fail
  have hN : (n : Int) ≤ 9223372036854775807 := by unfold maxLen at hc; omega
  go_loopg [3, 4] n (fun gk zv iv wr => ∃ (i : Nat) (z : Int), i ≤ n ∧ gk = n - i ∧ zv = .int .i64 z ∧ iv = .int .i64 (i : Int) ∧ Mod wr w0 S)
  case atStart => exact ⟨0, _, by omega, rfl, rfl, rfl, m⟩
  case round =>
    obtain ⟨i, z, hi, hgk, rfl, rfl, m1⟩ := hrel
    by_cases hlt : i < n
    · have hii : (i : Int) < (n : Int) := by omega
      by_cases hz : z ≤ 1048576
      · obtain ⟨cs, hcl, hlies, hcell⟩ := Hel.out i hlt
        obtain ⟨k, v, rfl⟩ := lies_row hlies
        obtain ⟨⟨bn, on_, sp⟩, hA, hsp, hxx⟩ := reads_cell m1 r2 (by omega)
        clear hxx
        simp only at hsp
        subst hsp hA
        have k1 : CellAt S bn (on_ + i * 2) (.string k) := by have := reads_at_cell r2 (by omega) (i * 2 + 0) (hcell 0 (by decide)); exact this
        have k2 : CellAt S bn (on_ + i * 2 + 1) (.string v) := by have := reads_at_cell r2 (by omega) (i * 2 + 1) (hcell 1 (by decide)); rw [← Nat.add_assoc] at this; exact this
        clear hcell hcl hlies
        go_wp2_with fail
        go_quiet (fail)
        go_wp2_with fail
        go_roundg (n - (i + 1))
        case measure => omega
        case rel => exact ⟨i + 1, _, by omega, rfl, rfl, by go_num, inferInstance⟩
      · go_wp2_with fail
        go_ret
        exact ⟨⟨_, rfl⟩, m1⟩
    · have hi2 : i = n := by omega
      subst hi2
      have hii : ¬ ((i : Int) < (i : Int)) := by omega
      go_wp2_with fail
      go_ret
      exact ⟨⟨_, rfl⟩, m1⟩
set_option maxRecDepth 4000 in
set_option maxHeartbeats 1000000 in
theorem changes_size (a : Option Addr) (n c : Nat) (h : Lies enc W base held 235 [.slice a n c]) (w w0 : World) (S : Asn) (m : Mod w w0 S) (s : Sub S (just (hp W))) : Calls Tryz.prog 328 #[.slice a n c] w fun e w' => (∃ z : Int, e = .returned (.int .i64 z)) ∧ Mod w' w0 S := by
  obtain ⟨L, r, hnc, hc, hel⟩ := h.cells Tryz.underlying235 cells_change (by decide)
  have r2 := reads_lift s r
  have Hel := Lib.hid hel
  clear hel r h
  go_enter Tryz.func328, Tryz.ntmps328
  go_wp2_with fail
  have hN : (n : Int) ≤ 9223372036854775807 := by unfold maxLen at hc; omega
  go_loopg [3, 4] n (fun gk zv iv wr => ∃ (i : Nat) (z : Int), i ≤ n ∧ gk = n - i ∧ zv = .int .i64 z ∧ iv = .int .i64 (i : Int) ∧ Mod wr w0 S)
  case atStart => exact ⟨0, _, by omega, rfl, rfl, rfl, m⟩
  case round =>
    obtain ⟨i, z, hi, hgk, rfl, rfl, m1⟩ := hrel
    by_cases hlt : i < n
    · have hii : (i : Int) < (n : Int) := by omega
      by_cases hz : z ≤ 1048576
      · obtain ⟨cs, hcl, hlies, hcell⟩ := Hel.out i hlt
        obtain ⟨k, v, b3, rfl⟩ := lies_change hlies
        obtain ⟨⟨bn, on_, sp⟩, hA, hsp, hxx⟩ := reads_cell m1 r2 (by omega)
        clear hxx
        simp only at hsp
        subst hsp hA
        have k1 : CellAt S bn (on_ + i * 3) (.string k) := by have := reads_at_cell r2 (by omega) (i * 3 + 0) (hcell 0 (by decide)); exact this
        have k2 : CellAt S bn (on_ + i * 3 + 1) (.string v) := by have := reads_at_cell r2 (by omega) (i * 3 + 1) (hcell 1 (by decide)); rw [← Nat.add_assoc] at this; exact this
        clear hcell hcl hlies
        go_wp2_with fail
        go_quiet (fail)
        go_wp2_with fail
        go_roundg (n - (i + 1))
        case measure => omega
        case rel => exact ⟨i + 1, _, by omega, rfl, rfl, by go_num, inferInstance⟩
      · go_wp2_with fail
        go_ret
        exact ⟨⟨_, rfl⟩, m1⟩
    · have hi2 : i = n := by omega
      subst hi2
      have hii : ¬ ((i : Int) < (i : Int)) := by omega
      go_wp2_with fail
      go_ret
      exact ⟨⟨_, rfl⟩, m1⟩
end
end Go.Proofs.YtkdiejbpleojnaaGreatDoor
