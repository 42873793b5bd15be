/- The walks of package ints' PutFour and GetFour, and of slices.Concat, slices.Grow below: contracts over the small separation logic; the conditions are in each theorem. -/
import Derived.Test.YtmpgnnjhgjfgaaaDoorLeft
import Derived.Test.YtmpgnnjhgjfgaaaDoorJourPlain
import Derived.Deep.LoopGhost
import Derived.Deep.QuietTactic
import Derived.BigQuiet
import Derived.Laws.BitsAllLaws
import Derived.Lib.AppendZeros
namespace Go.Proofs.YtmpgnnjhgjfgaaaDoor
open Go.RowKit Go.Sl
attribute [local go_sem] cell_of frozen_of zero_names eql_nil_bytes
theorem gap_spec (p : Nat) (w w0 : World) (S : Asn) (m : Mod w w0 S) (hp : p ≤ 9223372036854775807) : Calls Tryd.prog 47 #[.int .i64 (p : Int)] w fun e w' => e = .returned (.int .i64 (gapOf p : Int)) ∧ Mod w' w0 S := by
  by_cases h : 128 - p % 128 ≤ 7
  · have hg : (gapOf p : Int) = 128 - (p : Int) % 128 := by unfold gapOf; rw [if_pos h]; omega
    have HG := Lib.hid hg
    clear hg
    go_enter Tryd.func47, Tryd.ntmps47
    go_wp2
    go_ret
    exact ⟨by rw [HG.out]; rfl, m⟩
  · have hg : gapOf p = 0 := by unfold gapOf; rw [if_neg h]
    have HG := Lib.hid hg
    clear hg
    go_enter Tryd.func47, Tryd.ntmps47
    go_wp2
    go_ret
    exact ⟨by rw [HG.out]; rfl, m⟩
theorem or_byte (v c : Nat) (hv : v < 16777216) (hc : c < 256) : bits .or .u32 ((v : Int) * 256) (c : Int) = ((v * 256 + c : Nat) : Int) := by
  have e1 : ((v : Int) * 256) = ((v * 256 : Nat) : Int) := by omega
  rw [e1, u32_or_nat _ _ (by omega) (by omega), nat_join 8 (v * 256) c (by omega) (by omega)]
/-- the first bytes as a number -/
def upto4 (l : List UInt8) (k : Nat) : Nat := (l.take k).foldl (fun n c => n * 256 + c.toNat) 0
theorem upto4_succ (l : List UInt8) (k : Nat) : k < l.length → upto4 l (k + 1) = upto4 l k * 256 + (l.getD k 0).toNat := fun h => by
  unfold upto4
  rw [List.take_succ_eq_append_getElem h, List.foldl_append, List.getD_eq_getElem?_getD, List.getElem?_eq_getElem h]
  rfl
theorem upto4_lt (l : List UInt8) : ∀ k, k < 4 → upto4 l k < 16777216 := by
  have key : ∀ k, k ≤ l.length → upto4 l k < 256 ^ k := by
    intro k
    induction k with
    | zero => intro _; simp [upto4]
    | succ k ih =>
      intro h
      rw [upto4_succ l k (by omega)]
      have h1 := ih (by omega)
      have h2 := (l.getD k 0).toNat_lt
      rw [Nat.pow_succ]; omega
  intro k hk
  by_cases h : k ≤ l.length
  · exact Nat.lt_of_lt_of_le (key k h) (Nat.pow_le_pow_right (by omega) (show k ≤ 3 by omega))
  · have e : upto4 l k = upto4 l l.length := by unfold upto4; rw [List.take_of_length_le (by omega), List.take_length]
    rw [e]
    exact Nat.lt_of_lt_of_le (key _ (Nat.le_refl _)) (Nat.pow_le_pow_right (by omega) (show l.length ≤ 3 by omega))
set_option maxHeartbeats 2000000 in
theorem getFour_spec (B : Option Addr) (n c : Nat) (a0 a1 a2 a3 : UInt8) (l : List UInt8) (w w0 : World) (S : Asn) (m : Mod w w0 S) (r : Reads S B n (u8s (a0 :: a1 :: a2 :: a3 :: l))) (hn : n ≤ 9223372036854775807) (hc : n ≤ c) :
    Calls Tryd.prog 48 #[.slice B n c] w fun e w' => e = .returned (.tuple #[.int .u32 (four4 a0 a1 a2 a3 : Int), .int .i64 0]) ∧ Mod w' w0 S := by
  have hl := reads_len m r
  rw [length_u8s] at hl
  simp only [List.length_cons] at hl
  go_enter Tryd.func48, Tryd.ntmps48
  have hB : ∃ b1 o1, B = some ⟨b1, o1, none⟩ ∧ ∀ j u, (u8s (a0 :: a1 :: a2 :: a3 :: l))[j]? = some u → w.cell? ⟨b1, o1 + j, none⟩ = some u := by
    obtain ⟨ad, hB, hsp, hc⟩ := reads_cell m r (by omega)
    obtain ⟨b1, o1, sp1⟩ := ad
    simp only at hsp
    subst hsp
    exact ⟨b1, o1, hB, hc⟩
  obtain ⟨b1, o1, rfl, hc⟩ := hB
  have hx : ∀ k : Nat, k < 4 → ∃ x : UInt8, w.cell? ⟨b1, o1 + k, none⟩ = some (.int .u8 (x.toNat : Int)) ∧ upto4 [a0, a1, a2, a3] (k + 1) = upto4 [a0, a1, a2, a3] k * 256 + x.toNat := fun k hk => by
    have e : ∀ k, k < 4 → ∃ x : UInt8, (u8s (a0 :: a1 :: a2 :: a3 :: l))[k]? = some (.int .u8 (x.toNat : Int)) ∧ upto4 [a0, a1, a2, a3] (k + 1) = upto4 [a0, a1, a2, a3] k * 256 + x.toNat := by
      intro k hk
      match k, hk with
      | 0, _ => exact ⟨a0, rfl, rfl⟩
      | 1, _ => exact ⟨a1, rfl, rfl⟩
      | 2, _ => exact ⟨a2, rfl, rfl⟩
      | 3, _ => exact ⟨a3, rfl, rfl⟩
    obtain ⟨x, h1, h2⟩ := e k hk
    exact ⟨x, hc k _ h1, h2⟩
  have Hx := Lib.hid hx
  have H4 : Hid (upto4 [a0, a1, a2, a3] 4 = four4 a0 a1 a2 a3) := by
    show _ = _
    simp only [upto4, four4, List.take, List.foldl_cons, List.foldl_nil]; omega
  have Hlt := Lib.hid (upto4_lt [a0, a1, a2, a3])
  clear hx hc
  generalize [a0, a1, a2, a3] = L at *
  go_wp2
  go_loopg [2, 12] 4 (fun gk v i wr => ∃ k : Nat, k ≤ 4 ∧ gk = 4 - k ∧ i = .int .i64 (k : Int) ∧ v = .int .u32 ((upto4 L k : Nat) : Int) ∧ wr = w)
  case atStart => exact ⟨0, by omega, rfl, rfl, rfl, rfl⟩
  case round =>
    obtain ⟨k, hk, hgk, rfl, rfl, rfl⟩ := hrel
    by_cases hlt : k < 4
    · obtain ⟨x, hcell, hs⟩ := Hx.out k hlt
      have Hs := Lib.hid hs
      clear hs
      have hki : (k : Int) < 4 := by omega
      have hb := Hlt.out k hlt
      have hcl := x.toNat_lt
      generalize upto4 L k = v at *
      have Hor := Lib.hid (or_byte v x.toNat hb hcl)
      go_wp2
      go_roundg (4 - (k + 1))
      case measure => omega
      case rel => exact ⟨k + 1, by omega, rfl, by go_num, by rw [Hs.out, Hor.out], rfl⟩
    · have hk4 : k = 4 := by omega
      subst hk4
      rw [H4.out]
      go_wp2
      go_ret2
      exact ⟨rfl, m⟩
theorem row_cut {w w0 : World} {F : Asn} {e : TypeId} {A : Option Addr} {n c : Nat} {xs : List Value} (m : Mod w w0 (rowA e 1 (.slice A n c) n xs * F)) : Mod w w0 (rowA e 1 (.slice A 0 c) 0 [] * F) := by
  refine Mod.conv (S := rowA e 1 (.slice A n c) n xs * F) (m := m) fun _ h => sep_imp (A := rowA e 1 (.slice A n c) n xs) (fun y hy => ?_) h
  rcases hy.2 with ⟨h1, h2, h3⟩ | ⟨g, cap, cur, h1, h2, h3, h4, h5, h6⟩
  · injection h1 with h1 _ h4
    subst h1 h4
    exact ⟨rfl, .inl ⟨rfl, rfl, h3⟩⟩
  · injection h1 with h1 _ h7
    subst h1 h7
    exact ⟨rfl, .inr ⟨g, c, cur, rfl, Nat.zero_le _, h3, h4, by simp, h6⟩⟩
theorem made_u8s (n : Nat) : (madeCells #[.int .u8 0] n).toList = u8s (List.replicate n 0) := by
  apply List.ext_getElem
  · simp [madeCells, u8s]
  · intro i h1 h2
    simp [madeCells, u8s, Nat.mod_one]
attribute [local go_sem] make_bytes
set_option maxRecDepth 10000 in
set_option maxHeartbeats 2000000 in
theorem grow_nil (n : Nat) (w w0 : World) (S : Asn) (m : Mod w w0 S) (hn : n ≤ 140737488355328) : Calls Tryd.prog 89 #[.slice none 0 0, .int .i64 (n : Int)] w fun e w' => ∃ A' c, e = .returned (.slice A' 0 c) ∧ Mod w' w0 (rowA 5 1 (.slice A' 0 c) 0 [] * S) := by
  rcases Nat.eq_zero_or_pos n with h0 | h0
  · subst h0
    go_enter Tryd.func89, Tryd.ntmps89
    go_wp2
    go_ret
    exact ⟨none, 0, rfl, row_none m⟩
  · have hni : (0 : Int) < (n : Int) := by omega
    obtain ⟨i, hi, hz, hs, hb⟩ := info_u8
    go_enter Tryd.func89, Tryd.ntmps89
    have hrun := Lib.run_append_nil_zeros (P := Tryd.prog) w 35 3 35 5 i (.int .u8 0) .i64 .i64 Tryd.underlying35 Tryd.underlying3 hi hz n h0 (by omega) (by omega) (by rw [hb]; omega)
    generalize hv : (Value.slice (some ⟨w.heap.size, 0, none⟩) n (grownCap w n 0 5)) = v at hrun
    generalize hw : (w.drew.alloc (.cells (Builtin.zeroCells (Value.int .u8 0).cells n ++ Builtin.zeroCells (Value.int .u8 0).cells (grownCap w n 0 5 - n)) 5)) = w2 at hrun
    go_wp2_with (at_builtin; refine Lib.wpList_append_run w rfl _ _ 35 3 rfl (.slice none 0 0) (.int .i64 (n : Int)) rfl rfl v w2 hrun ?_; subst hv)
    subst hw
    go_ret
    refine ⟨_, _, rfl, ?_⟩
    have hge := grownCap_ge w n 0 5
    have hle := grownCap_le_maxLen w n 0 5 (by unfold maxLen; omega)
    have ma : Mod (w.drew.alloc (.cells (Builtin.zeroCells (Value.int .u8 0).cells n ++ Builtin.zeroCells (Value.int .u8 0).cells (grownCap w n 0 5 - n)) 5)) w0 (blk w.heap.size (.cells (Builtin.zeroCells (Value.int .u8 0).cells n ++ Builtin.zeroCells (Value.int .u8 0).cells (grownCap w n 0 5 - n)) 5 (0, 0)) * S) := Mod.alloc (m := Mod.drew (m := m)) (hn := ⟨rfl⟩) _
    refine Mod.conv (m := ma) fun _ h => sep_imp (A' := rowA 5 1 (.slice (some ⟨w.heap.size, 0, none⟩) 0 (grownCap w n 0 5)) 0 []) (fun y hy => ⟨rfl, .inr ⟨w.heap.size, _, _, rfl, Nat.zero_le _, hle, ?_, by simp, hy⟩⟩) h
    rw [Array.size_append, size_zeroCells, size_zeroCells]
    show n * 1 + (grownCap w n 0 5 - n) * 1 = _
    omega
theorem grow_int (n : Nat) (N : Int) (hN : N = n) (w w0 : World) (S : Asn) (m : Mod w w0 S) (hn : n ≤ 140737488355328) : Calls Tryd.prog 89 #[.slice none 0 0, .int .i64 N] w fun e w' => ∃ A' c, e = .returned (.slice A' 0 c) ∧ Mod w' w0 (rowA 5 1 (.slice A' 0 c) 0 [] * S) := by
  subst hN; exact grow_nil n w w0 S m hn
set_option maxRecDepth 10000 in
set_option maxHeartbeats 2000000 in
theorem concat_two (B : Option Addr) (n c : Nat) (xs : List UInt8) (g : Nat) (ys : List UInt8) (w w0 : World) (S : Asn) (m : Mod w w0 S) (r : Reads S B n (u8s xs)) (g2 : Nat) (k c2 : Nat) (hh : Has S g (.cells #[.slice B n c, .slice (some ⟨g2, 0, none⟩) k c2] 35 (0, 0))) (r2 : Reads S (some ⟨g2, 0, none⟩) k (u8s ys)) (hn : n + k ≤ 140737488355328) :
    Calls Tryd.prog 73 #[.slice (some ⟨g, 0, none⟩) 2 2] w fun e w' => ∃ A' c', e = .returned (.slice A' (n + k) c') ∧ Mod w' w0 (rowA 5 1 (.slice A' (n + k) c') (n + k) (u8s (xs ++ ys)) * S) := by
  go_enter Tryd.func73, Tryd.ntmps73
  go_wp2
  refine wp_loop_rounds 3 ?_
  rw [rounds_succ]
  go_wp2
  rw [rounds_succ]
  go_wp2
  rw [rounds_succ]
  go_wp2_with (go_at_call 89; refine (grow_int (n + k) _ (by omega) _ w0 S m hn).mono ?_; rintro e w1 ⟨A0, c0, rfl, m1⟩)
  refine wp_loop_rounds 3 ?_
  rw [rounds_succ]
  go_wp2_with (at_builtin; (refine wpList_append (v := .slice A0 0 c0) (A := B) (k := n) (c := c) (news := u8s xs) (r := inferInstance) rfl rfl m1 rfl rfl (one_u8s _) (by unfold maxLen; omega) (by omega) ?_); intro A1 c1 w2 m2; simp only [Nat.zero_add, List.nil_append, emp_sep] at m2)
  rw [rounds_succ]
  go_wp2_with (at_builtin; (refine wpList_append (v := .slice A1 n c1) (A := some ⟨g2, 0, none⟩) (k := k) (c := c2) (news := u8s ys) (r := inferInstance) rfl rfl m2 rfl rfl (one_u8s _) (by unfold maxLen; omega) (by omega) ?_); intro A2 c3 w3 m3; simp only [emp_sep] at m3)
  rw [rounds_succ]
  go_wp2
  go_ret
  refine ⟨A2, c3, rfl, ?_⟩
  rw [u8s_append]
  exact m3
theorem join_two (B : Option Addr) (n c : Nat) (xs : List UInt8) (g : Nat) (ys : List UInt8) (w w0 : World) (S : Asn) (m : Mod w w0 S) (r : Reads S B n (u8s xs)) (g2 : Nat) (k c2 : Nat) (hh : Has S g (.cells #[.slice B n c, .slice (some ⟨g2, 0, none⟩) k c2] 35 (0, 0))) (r2 : Reads S (some ⟨g2, 0, none⟩) k (u8s ys)) (hn : n + k ≤ 140737488355328) :
    Calls Tryd.prog 62 #[.slice (some ⟨g, 0, none⟩) 2 2] w fun e w' => ∃ A' c', e = .returned (.slice A' (n + k) c') ∧ Mod w' w0 (rowA 5 1 (.slice A' (n + k) c') (n + k) (u8s (xs ++ ys)) * S) := by
  go_enter Tryd.func62, Tryd.ntmps62
  go_wp2_with (go_at_call 73; refine (concat_two B n c xs g ys _ w0 S m r g2 k c2 hh r2 hn).mono ?_; rintro e w1 ⟨A0, c0, rfl, m1⟩)
  go_ret
  exact ⟨A0, c0, rfl, m1⟩
theorem four_cells (v : Nat) (hv : v < 4294967296) : #[Value.int .u8 ((v : Int) / 16777216), .int .u8 ((v : Int) / 65536 % 256), .int .u8 ((v : Int) / 256 % 256), .int .u8 ((v : Int) % 256)].toList = u8s (four v) := by
  have e : v / 16777216 % 256 = v / 16777216 := by omega
  simp [u8s, four, e]
set_option maxHeartbeats 2000000 in
theorem putFour_spec (B : Option Addr) (n c : Nat) (xs : List UInt8) (v : Nat) (hv : v < 4294967296) (w w0 : World) (S : Asn) (m : Mod w w0 S) (r : Reads S B n (u8s xs)) (hn : n + 4 ≤ 140737488355328) :
    Calls Tryd.prog 52 #[.slice B n c, .int .u32 (v : Int)] w fun e w' => ∃ A' c', e = .returned (.slice A' (n + 4) c') ∧ Mod w' w0 (rowA 5 1 (.slice A' (n + 4) c') (n + 4) (u8s (xs ++ four v)) * S) := by
  go_enter Tryd.func52, Tryd.ntmps52
  go_wp2_with (go_at_call 62; refine (join_two B n c xs _ (four v) _ w0 _ inferInstance inferInstance w.heap.size 4 4 inferInstance (reads_blk (four_cells v hv) rfl) hn).mono ?_; rintro e w1 ⟨A0, c0, rfl, m1⟩)
  go_ret
  exact ⟨A0, c0, rfl, repack1 (rowQ 5 1 (.slice A0 (n + 4) c0)) m1⟩
end Go.Proofs.YtmpgnnjhgjfgaaaDoor
