/- law01's Book: the look at all lists of bytes; the kinds of which it holds none: contracts over the small separation logic. -/
import Derived.Test.YtcakdaadbpimaaaGreatDoorBook2
import Derived.Deep.QuietTactic
import Derived.BigQuiet
namespace Go.Proofs.YtcakdaadbpimaaaGreatDoor
open Go.RowKit Go.Sl
attribute [local go_sem] cell_of cellAt_of frozen_of
theorem isByte_same (n : Nat) (w : World) (_hn : n ≤ 20000001) : Calls Tryz.prog 142 #[.int .u8 (mark n), .int .i64 (n : Int)] w fun e w' => e = .returned (.bool true) ∧ w' = w := by
  have h1 : (n : Int).tmod 250 = ((n % 250 : Nat) : Int) := rfl
  have h2 : (n % 250) < 250 := Nat.mod_lt _ (by decide)
  unfold mark
  generalize n % 250 = r at *
  go_enter Tryz.func142, Tryz.ntmps142
  go_wp2_with fail
  go_ret
  exact ⟨rfl, rfl⟩
set_option maxRecDepth 4000 in
set_option maxHeartbeats 4000000 in
theorem look_spec (k : Nat) (B : Option Addr) (n cB : Nat) (ps : List (Value × Value)) (X : Asn) (w w0 : World) (F : Asn) (hn : n ≤ 20000000) (hl : ps.length = n) (hX : ∀ j (h : j < ps.length), Long X ps[j] (j + 1))
    (m : Mod w w0 (Go.Sl.blk k (.cells #[.int .i64 (n : Int), (.slice B n cB), .slice none 0 0, .slice none 0 0, .slice none 0 0, .slice none 0 0, .slice none 0 0, .slice none 0 0, .slice none 0 0, .slice none 0 0, .slice none 0 0, .slice none 0 0, .slice none 0 0, .slice none 0 0] 45 (0, 0)) * (rowA 159 3 (.slice B n cB) n (hdCells ps) * (X * F)))) : Calls Tryz.prog 89 #[ptr k] w fun e w' => e = .returned (.bool true) ∧ Mod w' w0 (Go.Sl.blk k (.cells #[.int .i64 (n : Int), (.slice B n cB), .slice none 0 0, .slice none 0 0, .slice none 0 0, .slice none 0 0, .slice none 0 0, .slice none 0 0, .slice none 0 0, .slice none 0 0, .slice none 0 0, .slice none 0 0, .slice none 0 0, .slice none 0 0] 45 (0, 0)) * (rowA 159 3 (.slice B n cB) n (hdCells ps) * (X * F))) := by
  have Hl := Lib.hid hl
  have HX := Lib.hid hX
  have rH : Reads (rowA 159 3 (.slice B n cB) n (hdCells ps)) B (n * 3) (hdCells ps) := reads_rown (by decide)
  have RH := Lib.hid rH
  clear hl hX rH
  go_enter Tryz.func89, Tryz.ntmps89
  go_wp2_with fail
  go_loopg [3] n (fun gk iv wr => ∃ i : Nat, i ≤ n ∧ gk = n - i ∧ iv = .int .i64 (i : Int) ∧ Mod wr w0 (Go.Sl.blk k (.cells #[.int .i64 (n : Int), (.slice B n cB), .slice none 0 0, .slice none 0 0, .slice none 0 0, .slice none 0 0, .slice none 0 0, .slice none 0 0, .slice none 0 0, .slice none 0 0, .slice none 0 0, .slice none 0 0, .slice none 0 0, .slice none 0 0] 45 (0, 0)) * (rowA 159 3 (.slice B n cB) n (hdCells ps) * (X * F))))
  case atStart => exact ⟨0, Nat.zero_le _, rfl, rfl, m⟩
  case round =>
    obtain ⟨i, hi, hgk, rfl, m1⟩ := hrel
    by_cases hlt : i < n
    · have hii : (i : Int) < (n : Int) := by omega
      have hip : i < ps.length := by rw [Hl.out]; exact hlt
      obtain ⟨⟨bb, oo, sp⟩, hA, hsp, _⟩ := reads_cell m1 (reads_lift inferInstance RH.out) (by omega)
      simp only at hsp
      subst hsp hA
      obtain ⟨e0, e1, e2⟩ := hdFrom_at ps 0 i hip
      obtain ⟨la, nv, lc, A2, c2, ep, hvi, r1, r2⟩ := HX.out i hip
      have k0 := reads_at_cell RH.out (by omega) _ e0
      have k1 := reads_at_cell RH.out (by omega) _ e1
      have k2 := reads_at_cell RH.out (by omega) _ e2
      rw [← Nat.add_assoc] at k1 k2
      rw [ep] at k0 k1
      simp only [Nat.zero_add] at k0 k1 k2
      obtain ⟨num, hnum⟩ : ∃ num, i + 1 = num := ⟨_, rfl⟩
      rw [hnum] at k2 r1 r2
      have hnl : num ≤ 20000001 := by omega
      have R1 := Lib.hid r1
      have R2 := Lib.hid r2
      have Hnum := Lib.hid hnum
      have M1 := Lib.hid m1
      clear e0 e1 e2 ep r1 r2 hnum hip
      go_wp2_with fail
      obtain ⟨W, hW⟩ : ∃ W, wr.alloc (.cells #[.slice la nv lc, .slice A2 (nv + 40) c2, .int .i64 (num : Int)] 159) = W := ⟨_, rfl⟩
      obtain ⟨gh, hgh⟩ : ∃ gh, wr.heap.size = gh := ⟨_, rfl⟩
      have ma : Mod (wr.alloc (.cells #[.slice la nv lc, .slice A2 (nv + 40) c2, .int .i64 (num : Int)] 159)) w0 (Go.Sl.blk wr.heap.size (.cells #[.slice la nv lc, .slice A2 (nv + 40) c2, .int .i64 (num : Int)] 159 (0, 0)) * _) := Mod.alloc (m := m1) _
      rw [hW, hgh] at ma
      rw [hW, hgh]
      clear hW hgh m1 M1 k0 k1 k2
      have RG1 := Lib.hid (reads_lift (S' := Go.Sl.blk k (.cells #[.int .i64 (n : Int), (.slice (some ⟨bb, oo, none⟩) n cB), .slice none 0 0, .slice none 0 0, .slice none 0 0, .slice none 0 0, .slice none 0 0, .slice none 0 0, .slice none 0 0, .slice none 0 0, .slice none 0 0, .slice none 0 0, .slice none 0 0, .slice none 0 0] 45 (0, 0)) * (rowA 159 3 (.slice (some ⟨bb, oo, none⟩) n cB) n (hdCells ps) * (X * F))) inferInstance R1.out)
      have RG2 := Lib.hid (reads_lift (S' := Go.Sl.blk k (.cells #[.int .i64 (n : Int), (.slice (some ⟨bb, oo, none⟩) n cB), .slice none 0 0, .slice none 0 0, .slice none 0 0, .slice none 0 0, .slice none 0 0, .slice none 0 0, .slice none 0 0, .slice none 0 0, .slice none 0 0, .slice none 0 0, .slice none 0 0, .slice none 0 0] 45 (0, 0)) * (rowA 159 3 (.slice (some ⟨bb, oo, none⟩) n cB) n (hdCells ps) * (X * F))) inferInstance R2.out)
      obtain ⟨G, hG⟩ : ∃ G, Go.Sl.blk k (.cells #[.int .i64 (n : Int), (.slice (some ⟨bb, oo, none⟩) n cB), .slice none 0 0, .slice none 0 0, .slice none 0 0, .slice none 0 0, .slice none 0 0, .slice none 0 0, .slice none 0 0, .slice none 0 0, .slice none 0 0, .slice none 0 0, .slice none 0 0, .slice none 0 0] 45 (0, 0)) * (rowA 159 3 (.slice (some ⟨bb, oo, none⟩) n cB) n (hdCells ps) * (X * F)) = G := ⟨_, rfl⟩
      rw [hG] at ma RG1 RG2
      have HG := Lib.hid hG
      clear hG R1 R2
      go_loopg [5] (nv + 40) (fun gk jv wr => ∃ j : Nat, j ≤ nv + 40 ∧ gk = nv + 40 - j ∧ jv = .int .i64 (j : Int) ∧ Mod wr w0 (Go.Sl.blk gh (.cells #[.slice la nv lc, .slice A2 (nv + 40) c2, .int .i64 (num : Int)] 159 (0, 0)) * G))
      case atStart => exact ⟨0, Nat.zero_le _, rfl, rfl, ma⟩
      case round =>
        obtain ⟨j, hj, hgj, rfl, m3⟩ := hrel
        by_cases hjt : j < nv + 40
        · have hjj : (j : Int) < (nv : Int) + 40 := by omega
          obtain ⟨⟨b2, o2, sp⟩, hA, hsp, _⟩ := reads_cell m3 (reads_lift inferInstance RG2.out) (by omega)
          simp only at hsp
          subst hsp hA
          have k2 : CellAt G b2 (o2 + j) (.int .u8 (mark num)) := reads_at_cell RG2.out (by omega) j (by rw [List.getElem?_replicate, if_pos hjt])
          by_cases hjn : j < nv
          · have hjni : (j : Int) < (nv : Int) := by omega
            obtain ⟨⟨b3, o3, sp⟩, hA, hsp, _⟩ := reads_cell m3 (reads_lift inferInstance RG1.out) (by omega)
            simp only at hsp
            subst hsp hA
            have k3 : CellAt G b3 (o3 + j) (.int .u8 (mark num)) := reads_at_cell RG1.out (by omega) j (by rw [List.getElem?_replicate, if_pos hjn])
            go_wp2_with fail
            go_quiet (first | (go_at_call 142; refine Calls.quiet_of_same (isByte_same _ _ hnl)))
            go_wp2_with fail
            go_roundg (nv + 40 - (j + 1))
            case measure => omega
            case rel => exact ⟨j + 1, hjt, rfl, by go_num, Mod.drewN (m := m3) nq⟩
          · have hjni : ¬ (j : Int) < (nv : Int) := by omega
            go_wp2_with fail
            go_quiet (first | (go_at_call 142; refine Calls.quiet_of_same (isByte_same _ _ hnl)))
            go_wp2_with fail
            go_roundg (nv + 40 - (j + 1))
            case measure => omega
            case rel => exact ⟨j + 1, hjt, rfl, by go_num, Mod.drewN (m := m3) nq⟩
        · have hin : j = nv + 40 := by omega
          have hjj : ¬ (j : Int) < (nv : Int) + 40 := by omega
          have m7 := Mod.drop (m := m3)
          rw [← HG.out] at m7
          have M7 := Lib.hid m7
          clear m7
          go_wp2_with fail
          go_roundg (n - (i + 1))
          case measure => omega
          case rel => exact ⟨i + 1, hlt, rfl, by go_num, M7.out⟩
    · have hin : i = n := by omega
      have hii : ¬ (i : Int) < (n : Int) := by omega
      have M8 := Lib.hid m1
      go_wp2_with fail
      go_ret
      exact ⟨rfl, M8.out⟩
section
variable {k : Nat} {cnt : Int} {V : Value} {w w0 : World} {S : Asn} (m : Mod w w0 S) (hb : Has S k (.cells #[.int .i64 cnt, V, .slice none 0 0, .slice none 0 0, .slice none 0 0, .slice none 0 0, .slice none 0 0, .slice none 0 0, .slice none 0 0, .slice none 0 0, .slice none 0 0, .slice none 0 0, .slice none 0 0, .slice none 0 0] 45 (0, 0)))
include m hb
theorem fillId_none : Calls Tryz.prog 64 #[ptr k] w fun e w' => e = .returned (.tuple #[]) ∧ Mod w' w0 S := by
  go_enter Tryz.func64, Tryz.ntmps64
  go_wp2_with fail
  go_loopg [2] 0 (fun gk iv wr => iv = .int .i64 0 ∧ Mod wr w0 S)
  case atStart => exact ⟨rfl, m⟩
  case round =>
    obtain ⟨rfl, m1⟩ := hrel
    clear m
    go_wp2_with fail
    go_end0
    exact ⟨rfl, m1⟩
theorem growId_none : Calls Tryz.prog 77 #[ptr k] w fun e w' => e = .returned (.tuple #[]) ∧ Mod w' w0 S := by
  go_enter Tryz.func77, Tryz.ntmps77
  go_wp2_with fail
  go_loopg [2] 0 (fun gk iv wr => iv = .int .i64 0 ∧ Mod wr w0 S)
  case atStart => exact ⟨rfl, m⟩
  case round =>
    obtain ⟨rfl, m1⟩ := hrel
    clear m
    go_wp2_with fail
    go_end0
    exact ⟨rfl, m1⟩
theorem lookId_none : Calls Tryz.prog 90 #[ptr k] w fun e w' => e = .returned (.bool true) ∧ Mod w' w0 S := by
  go_enter Tryz.func90, Tryz.ntmps90
  go_wp2_with fail
  go_loopg [3] 0 (fun gk iv wr => iv = .int .i64 0 ∧ Mod wr w0 S)
  case atStart => exact ⟨rfl, m⟩
  case round =>
    obtain ⟨rfl, m1⟩ := hrel
    clear m
    go_wp2_with fail
    go_ret
    exact ⟨rfl, m1⟩
theorem fillNum_none : Calls Tryz.prog 65 #[ptr k] w fun e w' => e = .returned (.tuple #[]) ∧ Mod w' w0 S := by
  go_enter Tryz.func65, Tryz.ntmps65
  go_wp2_with fail
  go_loopg [2] 0 (fun gk iv wr => iv = .int .i64 0 ∧ Mod wr w0 S)
  case atStart => exact ⟨rfl, m⟩
  case round =>
    obtain ⟨rfl, m1⟩ := hrel
    clear m
    go_wp2_with fail
    go_end0
    exact ⟨rfl, m1⟩
theorem growNum_none : Calls Tryz.prog 78 #[ptr k] w fun e w' => e = .returned (.tuple #[]) ∧ Mod w' w0 S := by
  go_enter Tryz.func78, Tryz.ntmps78
  go_wp2_with fail
  go_loopg [2] 0 (fun gk iv wr => iv = .int .i64 0 ∧ Mod wr w0 S)
  case atStart => exact ⟨rfl, m⟩
  case round =>
    obtain ⟨rfl, m1⟩ := hrel
    clear m
    go_wp2_with fail
    go_end0
    exact ⟨rfl, m1⟩
theorem lookNum_none : Calls Tryz.prog 91 #[ptr k] w fun e w' => e = .returned (.bool true) ∧ Mod w' w0 S := by
  go_enter Tryz.func91, Tryz.ntmps91
  go_wp2_with fail
  go_loopg [3] 0 (fun gk iv wr => iv = .int .i64 0 ∧ Mod wr w0 S)
  case atStart => exact ⟨rfl, m⟩
  case round =>
    obtain ⟨rfl, m1⟩ := hrel
    clear m
    go_wp2_with fail
    go_ret
    exact ⟨rfl, m1⟩
theorem fillInt_none : Calls Tryz.prog 66 #[ptr k] w fun e w' => e = .returned (.tuple #[]) ∧ Mod w' w0 S := by
  go_enter Tryz.func66, Tryz.ntmps66
  go_wp2_with fail
  go_loopg [2] 0 (fun gk iv wr => iv = .int .i64 0 ∧ Mod wr w0 S)
  case atStart => exact ⟨rfl, m⟩
  case round =>
    obtain ⟨rfl, m1⟩ := hrel
    clear m
    go_wp2_with fail
    go_end0
    exact ⟨rfl, m1⟩
theorem growInt_none : Calls Tryz.prog 79 #[ptr k] w fun e w' => e = .returned (.tuple #[]) ∧ Mod w' w0 S := by
  go_enter Tryz.func79, Tryz.ntmps79
  go_wp2_with fail
  go_loopg [2] 0 (fun gk iv wr => iv = .int .i64 0 ∧ Mod wr w0 S)
  case atStart => exact ⟨rfl, m⟩
  case round =>
    obtain ⟨rfl, m1⟩ := hrel
    clear m
    go_wp2_with fail
    go_end0
    exact ⟨rfl, m1⟩
theorem lookInt_none : Calls Tryz.prog 92 #[ptr k] w fun e w' => e = .returned (.bool true) ∧ Mod w' w0 S := by
  go_enter Tryz.func92, Tryz.ntmps92
  go_wp2_with fail
  go_loopg [3] 0 (fun gk iv wr => iv = .int .i64 0 ∧ Mod wr w0 S)
  case atStart => exact ⟨rfl, m⟩
  case round =>
    obtain ⟨rfl, m1⟩ := hrel
    clear m
    go_wp2_with fail
    go_ret
    exact ⟨rfl, m1⟩
theorem fillText_none : Calls Tryz.prog 67 #[ptr k] w fun e w' => e = .returned (.tuple #[]) ∧ Mod w' w0 S := by
  go_enter Tryz.func67, Tryz.ntmps67
  go_wp2_with fail
  go_loopg [2] 0 (fun gk iv wr => iv = .int .i64 0 ∧ Mod wr w0 S)
  case atStart => exact ⟨rfl, m⟩
  case round =>
    obtain ⟨rfl, m1⟩ := hrel
    clear m
    go_wp2_with fail
    go_end0
    exact ⟨rfl, m1⟩
theorem growText_none : Calls Tryz.prog 80 #[ptr k] w fun e w' => e = .returned (.tuple #[]) ∧ Mod w' w0 S := by
  go_enter Tryz.func80, Tryz.ntmps80
  go_wp2_with fail
  go_loopg [2] 0 (fun gk iv wr => iv = .int .i64 0 ∧ Mod wr w0 S)
  case atStart => exact ⟨rfl, m⟩
  case round =>
    obtain ⟨rfl, m1⟩ := hrel
    clear m
    go_wp2_with fail
    go_end0
    exact ⟨rfl, m1⟩
theorem lookText_none : Calls Tryz.prog 93 #[ptr k] w fun e w' => e = .returned (.bool true) ∧ Mod w' w0 S := by
  go_enter Tryz.func93, Tryz.ntmps93
  go_wp2_with fail
  go_loopg [3] 0 (fun gk iv wr => iv = .int .i64 0 ∧ Mod wr w0 S)
  case atStart => exact ⟨rfl, m⟩
  case round =>
    obtain ⟨rfl, m1⟩ := hrel
    clear m
    go_wp2_with fail
    go_ret
    exact ⟨rfl, m1⟩
theorem fillRow_none : Calls Tryz.prog 68 #[ptr k] w fun e w' => e = .returned (.tuple #[]) ∧ Mod w' w0 S := by
  go_enter Tryz.func68, Tryz.ntmps68
  go_wp2_with fail
  go_loopg [2] 0 (fun gk iv wr => iv = .int .i64 0 ∧ Mod wr w0 S)
  case atStart => exact ⟨rfl, m⟩
  case round =>
    obtain ⟨rfl, m1⟩ := hrel
    clear m
    go_wp2_with fail
    go_end0
    exact ⟨rfl, m1⟩
theorem growRow_none : Calls Tryz.prog 81 #[ptr k] w fun e w' => e = .returned (.tuple #[]) ∧ Mod w' w0 S := by
  go_enter Tryz.func81, Tryz.ntmps81
  go_wp2_with fail
  go_loopg [2] 0 (fun gk iv wr => iv = .int .i64 0 ∧ Mod wr w0 S)
  case atStart => exact ⟨rfl, m⟩
  case round =>
    obtain ⟨rfl, m1⟩ := hrel
    clear m
    go_wp2_with fail
    go_end0
    exact ⟨rfl, m1⟩
theorem lookRow_none : Calls Tryz.prog 94 #[ptr k] w fun e w' => e = .returned (.bool true) ∧ Mod w' w0 S := by
  go_enter Tryz.func94, Tryz.ntmps94
  go_wp2_with fail
  go_loopg [3] 0 (fun gk iv wr => iv = .int .i64 0 ∧ Mod wr w0 S)
  case atStart => exact ⟨rfl, m⟩
  case round =>
    obtain ⟨rfl, m1⟩ := hrel
    clear m
    go_wp2_with fail
    go_ret
    exact ⟨rfl, m1⟩
theorem fillChange_none : Calls Tryz.prog 69 #[ptr k] w fun e w' => e = .returned (.tuple #[]) ∧ Mod w' w0 S := by
  go_enter Tryz.func69, Tryz.ntmps69
  go_wp2_with fail
  go_loopg [2] 0 (fun gk iv wr => iv = .int .i64 0 ∧ Mod wr w0 S)
  case atStart => exact ⟨rfl, m⟩
  case round =>
    obtain ⟨rfl, m1⟩ := hrel
    clear m
    go_wp2_with fail
    go_end0
    exact ⟨rfl, m1⟩
theorem growChange_none : Calls Tryz.prog 82 #[ptr k] w fun e w' => e = .returned (.tuple #[]) ∧ Mod w' w0 S := by
  go_enter Tryz.func82, Tryz.ntmps82
  go_wp2_with fail
  go_loopg [2] 0 (fun gk iv wr => iv = .int .i64 0 ∧ Mod wr w0 S)
  case atStart => exact ⟨rfl, m⟩
  case round =>
    obtain ⟨rfl, m1⟩ := hrel
    clear m
    go_wp2_with fail
    go_end0
    exact ⟨rfl, m1⟩
theorem lookChange_none : Calls Tryz.prog 95 #[ptr k] w fun e w' => e = .returned (.bool true) ∧ Mod w' w0 S := by
  go_enter Tryz.func95, Tryz.ntmps95
  go_wp2_with fail
  go_loopg [3] 0 (fun gk iv wr => iv = .int .i64 0 ∧ Mod wr w0 S)
  case atStart => exact ⟨rfl, m⟩
  case round =>
    obtain ⟨rfl, m1⟩ := hrel
    clear m
    go_wp2_with fail
    go_ret
    exact ⟨rfl, m1⟩
theorem fillEntry_none : Calls Tryz.prog 70 #[ptr k] w fun e w' => e = .returned (.tuple #[]) ∧ Mod w' w0 S := by
  go_enter Tryz.func70, Tryz.ntmps70
  go_wp2_with fail
  go_loopg [2] 0 (fun gk iv wr => iv = .int .i64 0 ∧ Mod wr w0 S)
  case atStart => exact ⟨rfl, m⟩
  case round =>
    obtain ⟨rfl, m1⟩ := hrel
    clear m
    go_wp2_with fail
    go_end0
    exact ⟨rfl, m1⟩
theorem growEntry_none : Calls Tryz.prog 83 #[ptr k] w fun e w' => e = .returned (.tuple #[]) ∧ Mod w' w0 S := by
  go_enter Tryz.func83, Tryz.ntmps83
  go_wp2_with fail
  go_loopg [2] 0 (fun gk iv wr => iv = .int .i64 0 ∧ Mod wr w0 S)
  case atStart => exact ⟨rfl, m⟩
  case round =>
    obtain ⟨rfl, m1⟩ := hrel
    clear m
    go_wp2_with fail
    go_end0
    exact ⟨rfl, m1⟩
theorem lookEntry_none : Calls Tryz.prog 96 #[ptr k] w fun e w' => e = .returned (.bool true) ∧ Mod w' w0 S := by
  go_enter Tryz.func96, Tryz.ntmps96
  go_wp2_with fail
  go_loopg [3] 0 (fun gk iv wr => iv = .int .i64 0 ∧ Mod wr w0 S)
  case atStart => exact ⟨rfl, m⟩
  case round =>
    obtain ⟨rfl, m1⟩ := hrel
    clear m
    go_wp2_with fail
    go_ret
    exact ⟨rfl, m1⟩
theorem fillFile_none : Calls Tryz.prog 71 #[ptr k] w fun e w' => e = .returned (.tuple #[]) ∧ Mod w' w0 S := by
  go_enter Tryz.func71, Tryz.ntmps71
  go_wp2_with fail
  go_loopg [2] 0 (fun gk iv wr => iv = .int .i64 0 ∧ Mod wr w0 S)
  case atStart => exact ⟨rfl, m⟩
  case round =>
    obtain ⟨rfl, m1⟩ := hrel
    clear m
    go_wp2_with fail
    go_end0
    exact ⟨rfl, m1⟩
theorem growFile_none : Calls Tryz.prog 84 #[ptr k] w fun e w' => e = .returned (.tuple #[]) ∧ Mod w' w0 S := by
  go_enter Tryz.func84, Tryz.ntmps84
  go_wp2_with fail
  go_loopg [2] 0 (fun gk iv wr => iv = .int .i64 0 ∧ Mod wr w0 S)
  case atStart => exact ⟨rfl, m⟩
  case round =>
    obtain ⟨rfl, m1⟩ := hrel
    clear m
    go_wp2_with fail
    go_end0
    exact ⟨rfl, m1⟩
theorem lookFile_none : Calls Tryz.prog 97 #[ptr k] w fun e w' => e = .returned (.bool true) ∧ Mod w' w0 S := by
  go_enter Tryz.func97, Tryz.ntmps97
  go_wp2_with fail
  go_loopg [3] 0 (fun gk iv wr => iv = .int .i64 0 ∧ Mod wr w0 S)
  case atStart => exact ⟨rfl, m⟩
  case round =>
    obtain ⟨rfl, m1⟩ := hrel
    clear m
    go_wp2_with fail
    go_ret
    exact ⟨rfl, m1⟩
theorem fillItem_none : Calls Tryz.prog 72 #[ptr k] w fun e w' => e = .returned (.tuple #[]) ∧ Mod w' w0 S := by
  go_enter Tryz.func72, Tryz.ntmps72
  go_wp2_with fail
  go_loopg [2] 0 (fun gk iv wr => iv = .int .i64 0 ∧ Mod wr w0 S)
  case atStart => exact ⟨rfl, m⟩
  case round =>
    obtain ⟨rfl, m1⟩ := hrel
    clear m
    go_wp2_with fail
    go_end0
    exact ⟨rfl, m1⟩
theorem growItem_none : Calls Tryz.prog 85 #[ptr k] w fun e w' => e = .returned (.tuple #[]) ∧ Mod w' w0 S := by
  go_enter Tryz.func85, Tryz.ntmps85
  go_wp2_with fail
  go_loopg [2] 0 (fun gk iv wr => iv = .int .i64 0 ∧ Mod wr w0 S)
  case atStart => exact ⟨rfl, m⟩
  case round =>
    obtain ⟨rfl, m1⟩ := hrel
    clear m
    go_wp2_with fail
    go_end0
    exact ⟨rfl, m1⟩
theorem lookItem_none : Calls Tryz.prog 98 #[ptr k] w fun e w' => e = .returned (.bool true) ∧ Mod w' w0 S := by
  go_enter Tryz.func98, Tryz.ntmps98
  go_wp2_with fail
  go_loopg [3] 0 (fun gk iv wr => iv = .int .i64 0 ∧ Mod wr w0 S)
  case atStart => exact ⟨rfl, m⟩
  case round =>
    obtain ⟨rfl, m1⟩ := hrel
    clear m
    go_wp2_with fail
    go_ret
    exact ⟨rfl, m1⟩
theorem fillSaid_none : Calls Tryz.prog 73 #[ptr k] w fun e w' => e = .returned (.tuple #[]) ∧ Mod w' w0 S := by
  go_enter Tryz.func73, Tryz.ntmps73
  go_wp2_with fail
  go_loopg [2] 0 (fun gk iv wr => iv = .int .i64 0 ∧ Mod wr w0 S)
  case atStart => exact ⟨rfl, m⟩
  case round =>
    obtain ⟨rfl, m1⟩ := hrel
    clear m
    go_wp2_with fail
    go_end0
    exact ⟨rfl, m1⟩
theorem growSaid_none : Calls Tryz.prog 86 #[ptr k] w fun e w' => e = .returned (.tuple #[]) ∧ Mod w' w0 S := by
  go_enter Tryz.func86, Tryz.ntmps86
  go_wp2_with fail
  go_loopg [2] 0 (fun gk iv wr => iv = .int .i64 0 ∧ Mod wr w0 S)
  case atStart => exact ⟨rfl, m⟩
  case round =>
    obtain ⟨rfl, m1⟩ := hrel
    clear m
    go_wp2_with fail
    go_end0
    exact ⟨rfl, m1⟩
theorem lookSaid_none : Calls Tryz.prog 99 #[ptr k] w fun e w' => e = .returned (.bool true) ∧ Mod w' w0 S := by
  go_enter Tryz.func99, Tryz.ntmps99
  go_wp2_with fail
  go_loopg [3] 0 (fun gk iv wr => iv = .int .i64 0 ∧ Mod wr w0 S)
  case atStart => exact ⟨rfl, m⟩
  case round =>
    obtain ⟨rfl, m1⟩ := hrel
    clear m
    go_wp2_with fail
    go_ret
    exact ⟨rfl, m1⟩
theorem fillMsg_none : Calls Tryz.prog 74 #[ptr k] w fun e w' => e = .returned (.tuple #[]) ∧ Mod w' w0 S := by
  go_enter Tryz.func74, Tryz.ntmps74
  go_wp2_with fail
  go_loopg [2] 0 (fun gk iv wr => iv = .int .i64 0 ∧ Mod wr w0 S)
  case atStart => exact ⟨rfl, m⟩
  case round =>
    obtain ⟨rfl, m1⟩ := hrel
    clear m
    go_wp2_with fail
    go_end0
    exact ⟨rfl, m1⟩
theorem growMsg_none : Calls Tryz.prog 87 #[ptr k] w fun e w' => e = .returned (.tuple #[]) ∧ Mod w' w0 S := by
  go_enter Tryz.func87, Tryz.ntmps87
  go_wp2_with fail
  go_loopg [2] 0 (fun gk iv wr => iv = .int .i64 0 ∧ Mod wr w0 S)
  case atStart => exact ⟨rfl, m⟩
  case round =>
    obtain ⟨rfl, m1⟩ := hrel
    clear m
    go_wp2_with fail
    go_end0
    exact ⟨rfl, m1⟩
theorem lookMsg_none : Calls Tryz.prog 100 #[ptr k] w fun e w' => e = .returned (.bool true) ∧ Mod w' w0 S := by
  go_enter Tryz.func100, Tryz.ntmps100
  go_wp2_with fail
  go_loopg [3] 0 (fun gk iv wr => iv = .int .i64 0 ∧ Mod wr w0 S)
  case atStart => exact ⟨rfl, m⟩
  case round =>
    obtain ⟨rfl, m1⟩ := hrel
    clear m
    go_wp2_with fail
    go_ret
    exact ⟨rfl, m1⟩
theorem fillEvent_none : Calls Tryz.prog 75 #[ptr k] w fun e w' => e = .returned (.tuple #[]) ∧ Mod w' w0 S := by
  go_enter Tryz.func75, Tryz.ntmps75
  go_wp2_with fail
  go_loopg [2] 0 (fun gk iv wr => iv = .int .i64 0 ∧ Mod wr w0 S)
  case atStart => exact ⟨rfl, m⟩
  case round =>
    obtain ⟨rfl, m1⟩ := hrel
    clear m
    go_wp2_with fail
    go_end0
    exact ⟨rfl, m1⟩
theorem growEvent_none : Calls Tryz.prog 88 #[ptr k] w fun e w' => e = .returned (.tuple #[]) ∧ Mod w' w0 S := by
  go_enter Tryz.func88, Tryz.ntmps88
  go_wp2_with fail
  go_loopg [2] 0 (fun gk iv wr => iv = .int .i64 0 ∧ Mod wr w0 S)
  case atStart => exact ⟨rfl, m⟩
  case round =>
    obtain ⟨rfl, m1⟩ := hrel
    clear m
    go_wp2_with fail
    go_end0
    exact ⟨rfl, m1⟩
theorem lookEvent_none : Calls Tryz.prog 101 #[ptr k] w fun e w' => e = .returned (.bool true) ∧ Mod w' w0 S := by
  go_enter Tryz.func101, Tryz.ntmps101
  go_wp2_with fail
  go_loopg [3] 0 (fun gk iv wr => iv = .int .i64 0 ∧ Mod wr w0 S)
  case atStart => exact ⟨rfl, m⟩
  case round =>
    obtain ⟨rfl, m1⟩ := hrel
    clear m
    go_wp2_with fail
    go_ret
    exact ⟨rfl, m1⟩
end
end Go.Proofs.YtcakdaadbpimaaaGreatDoor
