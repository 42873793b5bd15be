/- The walk of slices.Equal on bytes: a contract over the small separation logic; the conditions are in the theorem. -/
import Derived.Test.YtkdiejbpleojnaaGreatDoorDecMay
import Derived.Deep.QuietTactic
import Derived.Deep.RegionHeld3
import Derived.BigQuiet
import Derived.Laws.BitsAllLaws
import Derived.Deep.LoopGhost
namespace Go.Proofs.YtkdiejbpleojnaaGreatDoor
open Go.RowKit Go.Sl
attribute [local go_sem] cell_of cellAt_of frozen_of zero_names
theorem equal_same (A1 : Option Addr) (n c1 : Nat) (A2 : Option Addr) (c2 : Nat) (xs : List UInt8) (w w0 : World) (S : Asn) (m : Mod w w0 S) (r1 : Reads S A1 n (u8s xs)) (r2 : Reads S A2 n (u8s xs)) (hn : n ≤ 4611686018427387904) :
    Calls Tryz.prog 205 #[.slice A1 n c1, .slice A2 n c2] w fun e w' => e = .returned (.bool true) ∧ Mod w' w0 S := by
  have hl : xs.length = n := by have := reads_len m r1; simpa [u8s] using this
  go_enter Tryz.func205, Tryz.ntmps205
  have hnI : (n : Int) ≤ 4611686018427387904 := by omega
  go_wp2_with fail
  go_loopg [13] n (fun gk iv wr => ∃ i : Nat, i ≤ n ∧ gk = n - i ∧ iv = .int .i64 (i : Int) ∧ Mod wr w0 S)
  case atStart => exact ⟨0, by omega, rfl, rfl, m⟩
  case round =>
    obtain ⟨i, hi, hgk, rfl, m1⟩ := hrel
    by_cases hlt : i < n
    · have hii : (i : Int) < (n : Int) := by omega
      obtain ⟨⟨b1, o1, s1⟩, hA1, hs1, hx1⟩ := reads_cell m1 r1 (by omega)
      obtain ⟨⟨b2, o2, s2⟩, hA2, hs2, hx2⟩ := reads_cell m1 r2 (by omega)
      clear hx1 hx2
      simp only at hs1 hs2
      subst hs1 hs2 hA1 hA2
      have hxi : ∃ v : Value, (u8s xs)[i]? = some v ∧ ∃ q : Nat, v = .int .u8 (q : Int) := ⟨.int .u8 ((xs[i]'(by omega)).toNat : Int), by simp [u8s, show i < xs.length by omega], _, rfl⟩
      obtain ⟨v, hv, q, rfl⟩ := hxi
      have k1 : CellAt S b1 (o1 + i) (.int .u8 (q : Int)) := reads_at_cell r1 (by omega) i hv
      have k2 : CellAt S b2 (o2 + i) (.int .u8 (q : Int)) := reads_at_cell r2 (by omega) i hv
      clear hv
      go_wp2_with fail
      go_quiet (fail)
      go_wp2_with fail
      go_roundg (n - (i + 1))
      case measure => omega
      case rel => exact ⟨i + 1, by omega, rfl, by go_num, inferInstance⟩
    · have hi2 : i = n := by omega
      subst hi2
      have hii : ¬ ((i : Int) < (i : Int)) := by omega
      go_wp2_with fail
      go_ret
      exact ⟨rfl, m1⟩
theorem or_byte64 (v c : Nat) (hv : v < 72057594037927936) (hc : c < 256) : bits .or .u64 ((v : Int) * 256) (c : Int) = ((v * 256 + c : Nat) : Int) := by
  have e1 : ((v : Int) * 256) = ((v * 256 : Nat) : Int) := by omega
  rw [e1, u64_or_nat _ _ (by omega) (by omega), nat_join 8 (v * 256) c (by omega) (by omega)]
theorem be8_at (x : Nat) (rest : List UInt8) (i : Nat) (hi : i < 8) : (u8s (be8 x ++ rest))[i]? = some (.int .u8 ((x / 2 ^ (56 - 8 * i) % 256 : Nat) : Int)) := by
  have h : (be8 x ++ rest)[i]? = some (UInt8.ofNat (x / 2 ^ (56 - 8 * i))) := by
    rw [List.getElem?_append_left (by simp [be8]; omega)]
    simp [be8, hi]
  unfold u8s
  rw [List.getElem?_map, h]
  simp
theorem be8_step (x i : Nat) (hi : i < 8) : x / 2 ^ (64 - 8 * (i + 1)) = x / 2 ^ (64 - 8 * i) * 256 + x / 2 ^ (56 - 8 * i) % 256 := by
  have e : 2 ^ (64 - 8 * i) = 2 ^ (56 - 8 * i) * 256 := by
    rw [show (256 : Nat) = 2 ^ 8 from rfl, ← Nat.pow_add]; congr 1; omega
  rw [e, ← Nat.div_div_eq_div_mul, show 64 - 8 * (i + 1) = 56 - 8 * i by omega]
  omega
theorem be8_lt (x i : Nat) (hx : x < 18446744073709551616) (hi : i < 8) : x / 2 ^ (64 - 8 * i) < 72057594037927936 := by
  have e : 2 ^ (64 - 8 * i) = 256 * 2 ^ (56 - 8 * i) := by
    rw [show (256 : Nat) = 2 ^ 8 from rfl, ← Nat.pow_add]; congr 1; omega
  rw [e, ← Nat.div_div_eq_div_mul]
  exact Nat.lt_of_le_of_lt (Nat.div_le_self _ _) (by omega)
/-- The closure that takes the next number off the bytes. -/
theorem back1_spec (g : Nat) (x : Nat) (hx : x < 18446744073709551616) (bn on_ n c : Nat) (rest : List UInt8) (hc : n + 8 ≤ c) (hn : n ≤ 1000000) (w w0 : World) (F : Asn) (m : Mod w w0 (Go.Sl.blk g (.cells #[.slice (some ⟨bn, on_, none⟩) (n + 8) c] 46 (0, 0)) * F)) (r : Reads F (some ⟨bn, on_, none⟩) (n + 8) (u8s (be8 x ++ rest))) :
    Calls Tryz.prog 203 #[ptr g] w fun e w' => e = .returned (.int .u64 (x : Int)) ∧ ∃ o', (0 < n → o' = on_ + 8) ∧ Mod w' w0 (Go.Sl.blk g (.cells #[.slice (some ⟨bn, o', none⟩) n (c - 8)] 46 (0, 0)) * F) := by
  go_enter Tryz.func203, Tryz.ntmps203
  go_wp2_with fail
  go_loopg [1, 2] 8 (fun gk nv iv wr => ∃ (i o' : Nat), i ≤ 8 ∧ gk = 8 - i ∧ nv = .int .u64 ((x / 2 ^ (64 - 8 * i) : Nat) : Int) ∧ iv = .int .i64 (i : Int) ∧ (i < c → o' = on_ + i) ∧ Mod wr w0 (Go.Sl.blk g (.cells #[.slice (some ⟨bn, o', none⟩) (n + 8 - i) (c - i)] 46 (0, 0)) * F))
  case atStart => exact ⟨0, on_, by omega, rfl, by rw [Nat.div_eq_of_lt (by omega)]; rfl, rfl, fun _ => rfl, m⟩
  case round =>
    obtain ⟨i, o', hi, hgk, rfl, rfl, ho, m1⟩ := hrel
    by_cases hlt : i < 8
    · have hii : (i : Int) < 8 := by omega
      obtain rfl := ho (by omega)
      clear ho
      have hq : CellAt F bn (on_ + i) (.int .u8 ((x / 2 ^ (56 - 8 * i) % 256 : Nat) : Int)) := reads_at_cell r (by omega) i (be8_at x rest i hlt)
      have Hs := Lib.hid (be8_step x i hlt)
      have hv := be8_lt x i hx hlt
      have hq256 : x / 2 ^ (56 - 8 * i) % 256 < 256 := Nat.mod_lt _ (by decide)
      generalize x / 2 ^ (56 - 8 * i) % 256 = q at *
      obtain ⟨L, hL⟩ : ∃ L, n + 8 - i = L + 1 := ⟨n + 7 - i, by omega⟩
      obtain ⟨C, hC⟩ : ∃ C, c - i = C + 1 := ⟨c - i - 1, by omega⟩
      have hLC : L ≤ C := by omega
      have hL2 : n + 8 - (i + 1) = L := by omega
      have hC2 : c - (i + 1) = C := by omega
      have hCi : i + 1 < c ↔ C ≠ 0 := by omega
      rw [hL, hC] at m1
      have HL2 := Lib.hid hL2
      have HC2 := Lib.hid hC2
      have HCi := Lib.hid hCi
      clear hL hC hL2 hC2 hCi
      generalize x / 2 ^ (64 - 8 * i) = v at *
      have Hor := Lib.hid (or_byte64 v q hv hq256)
      have hw1 : IntKind.u64.wrap ((v : Int) * 256) = (v : Int) * 256 := by rw [IntKind.wrap_u64]; omega
      have hw2 : IntKind.u64.wrap (q : Int) = (q : Int) := wrap_u64_nat (by omega)
      have hL1 : (1 : Int) ≤ (L : Int) + 1 := by omega
      by_cases hC0 : C = 0
      · subst hC0
        obtain rfl : L = 0 := by omega
        simp only [Nat.zero_add] at m1
        go_wp2_with fail
        refine wp_region_N 10 (fun u => u.cell? ⟨g, 0, none⟩ = some (.slice (some ⟨bn, on_ + i, none⟩) 1 1) ∧ u.cell? ⟨bn, on_ + i, none⟩ = some (.int .u8 (q : Int))) (by kernel_rfl) (by refine ⟨?_, ?_⟩ <;> (first | (rw [cell_of]; rfl) | (rw [cellAt_of]; done))) (fun hHeld => ?_)
        simp only [List.size_toArray, List.length_cons, List.length_nil, Nat.reduceAdd]
        refine take_at 0 (some 4) (v := ?_) rfl rfl (by kernel_rfl) (by decide) (by kernel_rfl) (by kernel_rfl) (by kernel_rfl) (fun _ _ _ h => h) (Or.inl ⟨by rfl, ?_⟩) hHeld ?_
        rotate_left 1
        · (intro u hu; (try dsimp only at hu); go_simp; try with_reducible rfl)
        simp only [Act.put, List.setIfInBounds_toArray, List.set_cons_zero, List.set_cons_succ]
        refine take_at 1 (some 5) (v := ?_) rfl rfl (by kernel_rfl) (by decide) (by kernel_rfl) (by kernel_rfl) (by kernel_rfl) (fun _ _ _ h => h) (Or.inl ⟨by rfl, ?_⟩) hHeld ?_
        rotate_left 1
        · (intro u hu; (try dsimp only at hu); go_simp; try with_reducible rfl)
        simp only [Act.put, List.setIfInBounds_toArray, List.set_cons_zero, List.set_cons_succ]
        refine take_at 2 (some 6) (v := ?_) rfl rfl (by kernel_rfl) (by decide) (by kernel_rfl) (by kernel_rfl) (by kernel_rfl) (fun _ _ _ h => h) (Or.inl ⟨by rfl, ?_⟩) hHeld ?_
        rotate_left 1
        · (intro u hu; (try dsimp only at hu); go_simp; try with_reducible rfl)
        simp only [Act.put, List.setIfInBounds_toArray, List.set_cons_zero, List.set_cons_succ]
        refine take_at 3 (some 7) (v := ?_) rfl rfl (by kernel_rfl) (by decide) (by kernel_rfl) (by kernel_rfl) (by kernel_rfl) (fun _ _ _ h => h) (Or.inl ⟨by rfl, ?_⟩) hHeld ?_
        rotate_left 1
        · (intro u hu; (try dsimp only at hu); go_simp; try with_reducible rfl)
        simp only [Act.put, List.setIfInBounds_toArray, List.set_cons_zero, List.set_cons_succ]
        refine take_at 4 (some 8) (v := ?_) rfl rfl (by kernel_rfl) (by decide) (by kernel_rfl) (by kernel_rfl) (by kernel_rfl) (fun _ _ _ h => h) (Or.inl ⟨by rfl, ?_⟩) hHeld ?_
        rotate_left 1
        · (intro u hu; (try dsimp only at hu); go_simp; try with_reducible rfl)
        simp only [Act.put, List.setIfInBounds_toArray, List.set_cons_zero, List.set_cons_succ]
        refine take_at 5 (some 9) (v := ?_) rfl rfl (by kernel_rfl) (by decide) (by kernel_rfl) (by kernel_rfl) (by kernel_rfl) (fun _ _ _ h => h) (Or.inl ⟨by rfl, ?_⟩) hHeld ?_
        rotate_left 1
        · (intro u hu; (try dsimp only at hu); go_simp; try with_reducible rfl)
        simp only [Act.put, List.setIfInBounds_toArray, List.set_cons_zero, List.set_cons_succ]
        refine take_at 6 (some 10) (v := ?_) rfl rfl (by kernel_rfl) (by decide) (by kernel_rfl) (by kernel_rfl) (by kernel_rfl) (fun _ _ _ h => h) (Or.inl ⟨by rfl, ?_⟩) hHeld ?_
        rotate_left 1
        · (intro u hu; (try dsimp only at hu); go_simp; try with_reducible rfl)
        simp only [Act.put, List.setIfInBounds_toArray, List.set_cons_zero, List.set_cons_succ]
        refine take_at 7 (some 11) (v := ?_) rfl rfl (by kernel_rfl) (by decide) (by kernel_rfl) (by kernel_rfl) (by kernel_rfl) (fun _ _ _ h => h) (Or.inl ⟨by rfl, ?_⟩) hHeld ?_
        rotate_left 1
        · (intro u hu; (try dsimp only at hu); go_simp; try with_reducible rfl)
        simp only [Act.put, List.setIfInBounds_toArray, List.set_cons_zero, List.set_cons_succ]
        refine take_at 8 (some 12) (v := ?_) rfl rfl (by kernel_rfl) (by decide) (by kernel_rfl) (by kernel_rfl) (by kernel_rfl) (fun _ _ _ h => h) (Or.inl ⟨by rfl, ?_⟩) hHeld ?_
        rotate_left 1
        · (intro u hu; (try dsimp only at hu); go_simp; try with_reducible rfl)
        simp only [Act.put, List.setIfInBounds_toArray, List.set_cons_zero, List.set_cons_succ]
        refine take_at 9 (some 1) (v := ?_) rfl rfl (by kernel_rfl) (by decide) (by kernel_rfl) (by kernel_rfl) (by kernel_rfl) (fun _ _ _ h => h) (Or.inl ⟨by rfl, ?_⟩) hHeld ?_
        rotate_left 1
        · (intro u hu; (try dsimp only at hu); go_simp; try with_reducible rfl)
        simp only [Act.put, List.setIfInBounds_toArray, List.set_cons_zero, List.set_cons_succ]
        refine wpAnyN_ready (rs := [10]) (by kernel_rfl) (by simp) (AllReadyN.last none rfl rfl rfl (fun K hK => ?_))
        go_simp
        refine hK.out undef _ (wpAnyN_done (by kernel_rfl) ?_)
        clear hK K
        have mE : Mod (wr.drew.setCell ⟨g, 0, none⟩ (.slice (some ⟨bn, on_ + i, none⟩) 0 0)) w0 _ := inferInstance
        simp only [emp_sep] at mE
        clear hHeld
        go_wp2_with fail
        go_roundg (8 - (i + 1))
        case measure => omega
        case rel => exact ⟨i + 1, on_ + i, by omega, rfl, by rw [Hs.out, Hor.out], by go_num, fun hh => absurd (HCi.out.1 hh) (by decide), by rw [HL2.out, HC2.out]; exact Mod.to (m := mE) (by first | rfl | ac_rfl)⟩
      · have hC1 : ¬ (C + 1 = 1) := by omega
        go_wp2_with fail
        refine wp_region_N 10 (fun u => u.cell? ⟨g, 0, none⟩ = some (.slice (some ⟨bn, on_ + i, none⟩) (L + 1) (C + 1)) ∧ u.cell? ⟨bn, on_ + i, none⟩ = some (.int .u8 (q : Int))) (by kernel_rfl) (by refine ⟨?_, ?_⟩ <;> (first | (rw [cell_of]; rfl) | (rw [cellAt_of]; done))) (fun hHeld => ?_)
        simp only [List.size_toArray, List.length_cons, List.length_nil, Nat.reduceAdd]
        refine take_at 0 (some 4) (v := ?_) rfl rfl (by kernel_rfl) (by decide) (by kernel_rfl) (by kernel_rfl) (by kernel_rfl) (fun _ _ _ h => h) (Or.inl ⟨by rfl, ?_⟩) hHeld ?_
        rotate_left 1
        · (intro u hu; (try dsimp only at hu); go_simp; try with_reducible rfl)
        simp only [Act.put, List.setIfInBounds_toArray, List.set_cons_zero, List.set_cons_succ]
        refine take_at 1 (some 5) (v := ?_) rfl rfl (by kernel_rfl) (by decide) (by kernel_rfl) (by kernel_rfl) (by kernel_rfl) (fun _ _ _ h => h) (Or.inl ⟨by rfl, ?_⟩) hHeld ?_
        rotate_left 1
        · (intro u hu; (try dsimp only at hu); go_simp; try with_reducible rfl)
        simp only [Act.put, List.setIfInBounds_toArray, List.set_cons_zero, List.set_cons_succ]
        refine take_at 2 (some 6) (v := ?_) rfl rfl (by kernel_rfl) (by decide) (by kernel_rfl) (by kernel_rfl) (by kernel_rfl) (fun _ _ _ h => h) (Or.inl ⟨by rfl, ?_⟩) hHeld ?_
        rotate_left 1
        · (intro u hu; (try dsimp only at hu); go_simp; try with_reducible rfl)
        simp only [Act.put, List.setIfInBounds_toArray, List.set_cons_zero, List.set_cons_succ]
        refine take_at 3 (some 7) (v := ?_) rfl rfl (by kernel_rfl) (by decide) (by kernel_rfl) (by kernel_rfl) (by kernel_rfl) (fun _ _ _ h => h) (Or.inl ⟨by rfl, ?_⟩) hHeld ?_
        rotate_left 1
        · (intro u hu; (try dsimp only at hu); go_simp; try with_reducible rfl)
        simp only [Act.put, List.setIfInBounds_toArray, List.set_cons_zero, List.set_cons_succ]
        refine take_at 4 (some 8) (v := ?_) rfl rfl (by kernel_rfl) (by decide) (by kernel_rfl) (by kernel_rfl) (by kernel_rfl) (fun _ _ _ h => h) (Or.inl ⟨by rfl, ?_⟩) hHeld ?_
        rotate_left 1
        · (intro u hu; (try dsimp only at hu); go_simp; try with_reducible rfl)
        simp only [Act.put, List.setIfInBounds_toArray, List.set_cons_zero, List.set_cons_succ]
        refine take_at 5 (some 9) (v := ?_) rfl rfl (by kernel_rfl) (by decide) (by kernel_rfl) (by kernel_rfl) (by kernel_rfl) (fun _ _ _ h => h) (Or.inl ⟨by rfl, ?_⟩) hHeld ?_
        rotate_left 1
        · (intro u hu; (try dsimp only at hu); go_simp; try with_reducible rfl)
        simp only [Act.put, List.setIfInBounds_toArray, List.set_cons_zero, List.set_cons_succ]
        refine take_at 6 (some 10) (v := ?_) rfl rfl (by kernel_rfl) (by decide) (by kernel_rfl) (by kernel_rfl) (by kernel_rfl) (fun _ _ _ h => h) (Or.inl ⟨by rfl, ?_⟩) hHeld ?_
        rotate_left 1
        · (intro u hu; (try dsimp only at hu); go_simp; try with_reducible rfl)
        simp only [Act.put, List.setIfInBounds_toArray, List.set_cons_zero, List.set_cons_succ]
        refine take_at 7 (some 11) (v := ?_) rfl rfl (by kernel_rfl) (by decide) (by kernel_rfl) (by kernel_rfl) (by kernel_rfl) (fun _ _ _ h => h) (Or.inl ⟨by rfl, ?_⟩) hHeld ?_
        rotate_left 1
        · (intro u hu; (try dsimp only at hu); go_simp; try with_reducible rfl)
        simp only [Act.put, List.setIfInBounds_toArray, List.set_cons_zero, List.set_cons_succ]
        refine take_at 8 (some 12) (v := ?_) rfl rfl (by kernel_rfl) (by decide) (by kernel_rfl) (by kernel_rfl) (by kernel_rfl) (fun _ _ _ h => h) (Or.inl ⟨by rfl, ?_⟩) hHeld ?_
        rotate_left 1
        · (intro u hu; (try dsimp only at hu); go_simp; try with_reducible rfl)
        simp only [Act.put, List.setIfInBounds_toArray, List.set_cons_zero, List.set_cons_succ]
        refine take_at 9 (some 1) (v := ?_) rfl rfl (by kernel_rfl) (by decide) (by kernel_rfl) (by kernel_rfl) (by kernel_rfl) (fun _ _ _ h => h) (Or.inl ⟨by rfl, ?_⟩) hHeld ?_
        rotate_left 1
        · (intro u hu; (try dsimp only at hu); go_simp; try with_reducible rfl)
        simp only [Act.put, List.setIfInBounds_toArray, List.set_cons_zero, List.set_cons_succ]
        refine wpAnyN_ready (rs := [10]) (by kernel_rfl) (by simp) (AllReadyN.last none rfl rfl rfl (fun K hK => ?_))
        go_simp
        refine hK.out undef _ (wpAnyN_done (by kernel_rfl) ?_)
        clear hK K
        have mE : Mod (wr.drew.setCell ⟨g, 0, none⟩ (.slice (some ⟨bn, on_ + i + 1, none⟩) L C)) w0 _ := inferInstance
        simp only [emp_sep] at mE
        clear hHeld
        go_wp2_with fail
        go_roundg (8 - (i + 1))
        case measure => omega
        case rel => exact ⟨i + 1, on_ + i + 1, by omega, rfl, by rw [Hs.out, Hor.out], by go_num, fun hh => by omega, by rw [HL2.out, HC2.out]; exact Mod.to (m := mE) (by first | rfl | ac_rfl)⟩
    · have hi8 : i = 8 := by omega
      subst hi8
      go_wp2_with fail
      go_ret
      exact ⟨by simp, o', fun hh => ho (by omega), m1⟩
end Go.Proofs.YtkdiejbpleojnaaGreatDoor
