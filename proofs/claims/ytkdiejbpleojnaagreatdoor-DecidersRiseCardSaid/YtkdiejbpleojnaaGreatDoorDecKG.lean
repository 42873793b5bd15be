/- Deciders in plain terms: what one knows, in cells and in bytes: definitions and plain lemmas.
A row as a block, and back: plain lemmas.
The walks of what a decider knows: its numbers, its bytes: contracts over the small separation logic; the conditions are in each theorem.
What a decider knows, loaded whole out of a block: plain lemmas over the small separation logic.
The walk of what a decider knows, as bytes: a contract over the small separation logic; the conditions are in the theorem.
The walk of the decider's begin: a contract over the small separation logic; the conditions are in the theorem.
The walk of the decider's keeps: a contract over the small separation logic; the conditions are in the theorem.
The walk of deciders.New on a disk without files: a contract over the small separation logic; the conditions are in the theorem. -/
import Derived.Test.YtkdiejbpleojnaaGreatDoorNamesG
import Derived.Test.YtkdiejbpleojnaaGreatDoorPartsG
import Derived.Deep.LoopGhost
import Derived.Deep.RegionHeld3
import Derived.Deep.MidRow
import Derived.Test.YtkdiejbpleojnaaGreatDoorJourG
namespace Go.Sl
/-- what a decider knows -/
structure Kn where
  epoch : Nat
  most : Nat
  index : Nat
  holder : Nat
  stamp : Nat
  lost : Bool
  many : Nat
  chain : List Nat
  had : List Nat
  lives : List Nat
  g0 : Nat
  g1 : Nat
def Kn.zero : Kn := ⟨0, 0, 0, 0, 0, false, 0, [0, 0, 0, 0], [0, 0, 0, 0], [0, 0, 0, 0], 0, 0⟩
/-- .. in ranges -/
structure KnOk (k : Kn) : Prop where
  epoch : k.epoch < 4294967296
  most : k.most < 4294967296
  index : k.index < 18446744073709551616
  holder : k.holder < 256
  stamp : k.stamp < 4294967296
  many : k.many ≤ 4
  chainL : k.chain.length = 4
  hadL : k.had.length = 4
  livesL : k.lives.length = 4
  chain : ∀ x ∈ k.chain, x < 256
  had : ∀ x ∈ k.had, x < 18446744073709551616
  lives : ∀ x ∈ k.lives, x < 4294967296
  g0 : k.g0 < 18446744073709551616
  g1 : k.g1 < 18446744073709551616
/-- .. that may be known -/
structure KnMay (k : Kn) : Prop where
  small : ∀ x ∈ k.chain, x ≤ 4
  full : ∀ i (h : i < k.chain.length), 0 < k.chain[i] ↔ i < k.many
  once : ∀ i (h : i < k.chain.length), 0 < k.chain[i] → k.chain[i] ∉ k.chain.take i
  holder : k.holder ≤ 4
  epoch : k.epoch ≤ k.most
abbrev vu8 (n : Nat) : Value := .int .u8 (n : Int)
abbrev vu32 (n : Nat) : Value := .int .u32 (n : Int)
abbrev vu64 (n : Nat) : Value := .int .u64 (n : Int)
def Kn.c (k : Kn) (i : Nat) : Nat := k.chain.getD i 0
def Kn.d (k : Kn) (i : Nat) : Nat := k.had.getD i 0
def Kn.l (k : Kn) (i : Nat) : Nat := k.lives.getD i 0
def Kn.cells (k : Kn) : Array Value :=
  #[vu32 k.epoch, vu32 k.most, vu64 k.index, vu8 k.holder, vu32 k.stamp, .bool k.lost, .int .i64 (k.many : Int), vu8 (k.c 0), vu8 (k.c 1), vu8 (k.c 2), vu8 (k.c 3),
    vu64 (k.d 0), vu64 (k.d 1), vu64 (k.d 2), vu64 (k.d 3), vu32 (k.l 0), vu32 (k.l 1), vu32 (k.l 2), vu32 (k.l 3), vu64 k.g0, vu64 k.g1]
/-- the numbers that a decider's bytes tell -/
def Kn.nums (k : Kn) : List Nat :=
  [k.epoch, k.most, k.index, k.holder, k.stamp, if k.lost then 1 else 0, k.many, k.g0, k.g1] ++ (List.range 4).flatMap fun i => [k.c i, k.d i, k.l i]
def be8 (n : Nat) : List UInt8 := (List.range 8).map fun j => UInt8.ofNat (n / 2 ^ (56 - 8 * j))
def Kn.bytes (k : Kn) : List UInt8 := k.nums.flatMap be8
theorem Kn.nums_length (k : Kn) : k.nums.length = 21 := by simp [Kn.nums, List.range_succ]
theorem Kn.bytes_length (k : Kn) : k.bytes.length = 168 := by
  unfold Kn.bytes
  rw [List.length_flatMap]
  simp [Kn.nums, List.range_succ, be8]
theorem Kn.size (k : Kn) : k.cells.size = 21 := rfl
theorem Kn.atChain (k : Kn) (i : Nat) (hi : i < 4) : k.cells[7 + i]? = some (vu8 (k.c i)) := by
  match i, hi with
  | 0, _ => rfl
  | 1, _ => rfl
  | 2, _ => rfl
  | 3, _ => rfl
theorem Kn.atHad (k : Kn) (i : Nat) (hi : i < 4) : k.cells[11 + i]? = some (vu64 (k.d i)) := by
  match i, hi with
  | 0, _ => rfl
  | 1, _ => rfl
  | 2, _ => rfl
  | 3, _ => rfl
theorem Kn.atLives (k : Kn) (i : Nat) (hi : i < 4) : k.cells[15 + i]? = some (vu32 (k.l i)) := by
  match i, hi with
  | 0, _ => rfl
  | 1, _ => rfl
  | 2, _ => rfl
  | 3, _ => rfl
section
variable {k : Kn} (h : KnOk k)
include h
theorem Kn.nums_lt : ∀ x ∈ k.nums, x < 18446744073709551616 := by
  have h1 := h.epoch
  have h2 := h.most
  have h3 := h.index
  have h4 := h.holder
  have h5 := h.stamp
  have h6 := h.many
  have h7 := h.g0
  have h8 := h.g1
  have hc : ∀ i, k.c i < 18446744073709551616 := fun i => by
    rw [Kn.c, List.getD_eq_getElem?_getD]
    cases hi : k.chain[i]? with
    | none => simp
    | some x => have := h.chain x (List.mem_of_getElem? hi); simp; omega
  have hh : ∀ i, k.d i < 18446744073709551616 := fun i => by
    rw [Kn.d, List.getD_eq_getElem?_getD]
    cases hi : k.had[i]? with
    | none => simp
    | some x => have := h.had x (List.mem_of_getElem? hi); simpa using this
  have hl : ∀ i, k.l i < 18446744073709551616 := fun i => by
    rw [Kn.l, List.getD_eq_getElem?_getD]
    cases hi : k.lives[i]? with
    | none => simp
    | some x => have := h.lives x (List.mem_of_getElem? hi); simp; omega
  intro x hx
  simp only [Kn.nums, List.mem_append, List.mem_cons, List.not_mem_nil, or_false, List.mem_flatMap] at hx
  rcases hx with (rfl | rfl | rfl | rfl | rfl | rfl | rfl | rfl | rfl) | ⟨i, _, rfl | rfl | rfl⟩ <;> first | omega | exact hc _ | exact hh _ | exact hl _ | (split <;> omega)
end
theorem Kn.at0 (k : Kn) : k.cells[0]? = some (vu32 k.epoch) := rfl
theorem Kn.at1 (k : Kn) : k.cells[1]? = some (vu32 k.most) := rfl
theorem Kn.at2 (k : Kn) : k.cells[2]? = some (vu64 k.index) := rfl
theorem Kn.at3 (k : Kn) : k.cells[3]? = some (vu8 k.holder) := rfl
theorem Kn.at4 (k : Kn) : k.cells[4]? = some (vu32 k.stamp) := rfl
theorem Kn.at5 (k : Kn) : k.cells[5]? = some (.bool k.lost) := rfl
theorem Kn.at6 (k : Kn) : k.cells[6]? = some (.int .i64 (k.many : Int)) := rfl
theorem Kn.at7 (k : Kn) : k.cells[7]? = some (vu8 (k.c 0)) := rfl
theorem Kn.at8 (k : Kn) : k.cells[8]? = some (vu8 (k.c 1)) := rfl
theorem Kn.at9 (k : Kn) : k.cells[9]? = some (vu8 (k.c 2)) := rfl
theorem Kn.at10 (k : Kn) : k.cells[10]? = some (vu8 (k.c 3)) := rfl
theorem Kn.at11 (k : Kn) : k.cells[11]? = some (vu64 (k.d 0)) := rfl
theorem Kn.at12 (k : Kn) : k.cells[12]? = some (vu64 (k.d 1)) := rfl
theorem Kn.at13 (k : Kn) : k.cells[13]? = some (vu64 (k.d 2)) := rfl
theorem Kn.at14 (k : Kn) : k.cells[14]? = some (vu64 (k.d 3)) := rfl
theorem Kn.at15 (k : Kn) : k.cells[15]? = some (vu32 (k.l 0)) := rfl
theorem Kn.at16 (k : Kn) : k.cells[16]? = some (vu32 (k.l 1)) := rfl
theorem Kn.at17 (k : Kn) : k.cells[17]? = some (vu32 (k.l 2)) := rfl
theorem Kn.at18 (k : Kn) : k.cells[18]? = some (vu32 (k.l 3)) := rfl
theorem Kn.at19 (k : Kn) : k.cells[19]? = some (vu64 k.g0) := rfl
theorem Kn.at20 (k : Kn) : k.cells[20]? = some (vu64 k.g1) := rfl
end Go.Sl
namespace Go.Proofs.YtkdiejbpleojnaaGreatDoor
open Go.RowKit Go.Sl
/-- A row's block. -/
theorem row_open {w w0 : World} {e : TypeId} {A : Option Addr} {n c : Nat} {xs : List Value} {F : Asn} (m : Mod w w0 (rowA e 1 (.slice A n c) n xs * F)) (hn : 0 < n) : ∃ g cur, A = some ⟨g, 0, none⟩ ∧ n ≤ cur.size ∧ c ≤ maxLen ∧ xs.length = n ∧ cur.size = c ∧ cur.toList.take n = xs ∧ Mod w w0 (blk g (.cells cur e (0, 0)) * F) := by
  have h := m.says
  rw [sep_assoc] at h
  obtain ⟨a, b, h1, h2, ⟨hl, h3⟩, h4⟩ := h
  rcases h3 with ⟨_, h0, _⟩ | ⟨g, cap, cur, hv, k1, k2, k3, k4, rfl⟩
  · omega
  · injection hv with e1 e2 e3
    subst e1 e3
    rw [Nat.mul_one] at k3 k4 hl
    exact ⟨g, cur, rfl, by omega, k2, hl, k3, k4, m.os, m.tape, m.output, by rw [sep_assoc]; exact ⟨_, b, h1, h2, rfl, h4⟩⟩
theorem row_shut {w w0 : World} {e : TypeId} {g n c : Nat} {cur : Array Value} {xs : List Value} {F : Asn} (m : Mod w w0 (blk g (.cells cur e (0, 0)) * F)) (h1 : n ≤ c) (h2 : c ≤ maxLen) (h3 : cur.size = c) (h4 : xs.length = n) (h5 : cur.toList.take n = xs) : Mod w w0 (rowA e 1 (.slice (some ⟨g, 0, none⟩) n c) n xs * F) := by
  refine Mod.conv (S := blk g (.cells cur e (0, 0)) * F) (m := m) fun x hx => sep_imp (A := blk g (.cells cur e (0, 0))) (fun y hy => ?_) hx
  exact ⟨by omega, .inr ⟨g, c, cur, rfl, h1, h2, by omega, by rw [Nat.mul_one]; exact h5, hy⟩⟩
end Go.Proofs.YtkdiejbpleojnaaGreatDoor
namespace Go.Sl
def Kn.first (k : Kn) (l : Nat) : List Nat := [k.epoch, k.most, k.index, k.holder, k.stamp, l, k.many, k.g0, k.g1]
def Kn.upto (k : Kn) (i : Nat) : List Nat := (List.range i).flatMap fun i => [k.c i, k.d i, k.l i]
theorem Kn.upto_succ (k : Kn) (i : Nat) : k.upto (i + 1) = k.upto i ++ [k.c i, k.d i, k.l i] := by simp [Kn.upto, List.range_succ]
theorem Kn.upto_length (k : Kn) (i : Nat) : (k.upto i).length = 3 * i := by
  induction i with
  | zero => rfl
  | succ i ih => rw [Kn.upto_succ, List.length_append, ih]; simp; omega
theorem getD_lt {l : List Nat} {b : Nat} (h : ∀ x ∈ l, x < b) (hb : 0 < b) (i : Nat) : l.getD i 0 < b := by
  rw [List.getD_eq_getElem?_getD]
  cases hi : l[i]? with
  | none => simpa using hb
  | some x => exact h x (List.mem_of_getElem? hi)
end Go.Sl
namespace Go.Proofs.YtkdiejbpleojnaaGreatDoor
open Go.RowKit Go.Sl
attribute [local go_sem] cell_of frozen_of zero_names Kn.at0 Kn.at1 Kn.at2 Kn.at3 Kn.at4 Kn.at5 Kn.at6 Kn.at7 Kn.at8 Kn.at9 Kn.at10 Kn.at11 Kn.at12 Kn.at13 Kn.at14 Kn.at15 Kn.at16 Kn.at17 Kn.at18 Kn.at19 Kn.at20
instance rowT_u64s : RowT Tryz.prog 91 90 8 := ⟨by kernel_rfl, by kernel_rfl⟩
abbrev u64s (l : List Nat) : List Value := l.map vu64
theorem wrap_u64_nat {n : Nat} (h : n < 18446744073709551616) : IntKind.u64.wrap (n : Int) = (n : Int) := by rw [IntKind.wrap_u64]; omega
set_option maxRecDepth 4000 in
set_option maxHeartbeats 4000000 in
theorem knumbers_spec (k : Kn) (h : KnOk k) (w w0 : World) (S : Asn) (m : Mod w w0 S) :
    Calls Tryz.prog 261 #[.agg k.cells] w fun e w' => ∃ B c, e = .returned (.slice B 21 c) ∧ Mod w' w0 (rowA 90 1 (.slice B 21 c) 21 (u64s k.nums) * S) := by
  obtain ⟨l, hl⟩ : ∃ l, k.lost = l := ⟨_, rfl⟩
  have hch : ∀ i, k.c i < 256 := fun i => getD_lt h.chain (by omega) i
  have hlv : ∀ i, k.l i < 4294967296 := fun i => getD_lt h.lives (by omega) i
  have b0 := h.epoch
  have b1 := h.most
  have b3 := h.holder
  have b4 := h.stamp
  have b6 := h.many
  have HaC := Lib.hid (fun i hi => Kn.atChain k i hi)
  have HaH := Lib.hid (fun i hi => Kn.atHad k i hi)
  have HaL := Lib.hid (fun i hi => Kn.atLives k i hi)
  have Hch := Lib.hid hch
  have Hlv := Lib.hid hlv
  have HN : Hid (k.nums = k.first (if l = true then 1 else 0) ++ k.upto 4) := by show _ = _; rw [← hl]; rfl
  clear h hch hlv
  cases l
  · go_enter Tryz.func261, Tryz.ntmps261
    go_wp2_with fail
    have m3 : Mod ((w.alloc (.cells k.cells 171)).alloc (.cells #[vu64 k.epoch, vu64 k.most, vu64 k.index, vu64 k.holder, vu64 k.stamp, vu64 0, vu64 k.many, vu64 k.g0, vu64 k.g1] 90)) w0 (blk (w.heap.size + 1) (.cells #[vu64 k.epoch, vu64 k.most, vu64 k.index, vu64 k.holder, vu64 k.stamp, vu64 0, vu64 k.many, vu64 k.g0, vu64 k.g1] 90 (0, 0)) * (blk w.heap.size (.cells k.cells 171 (0, 0)) * S)) := inferInstance
    have m4 : Mod _ w0 (rowA 90 1 (.slice (some ⟨w.heap.size + 1, 0, none⟩) 9 9) 9 (u64s (k.first 0 ++ k.upto 0)) * (blk w.heap.size (.cells k.cells 171 (0, 0)) * S)) := row_shut m3 (Nat.le_refl _) (by decide) rfl rfl rfl
    clear m m3
    go_loopg [4, 33] 4 (fun gk ov iv wr => ∃ (i : Nat) (B : Option Addr) (c : Nat), i ≤ 4 ∧ gk = 4 - i ∧ ov = .slice B (9 + 3 * i) c ∧ iv = .int .i64 (i : Int) ∧ Mod wr w0 (rowA 90 1 (.slice B (9 + 3 * i) c) (9 + 3 * i) (u64s (k.first 0 ++ k.upto i)) * (blk w.heap.size (.cells k.cells 171 (0, 0)) * S)))
    case atStart => exact ⟨0, _, _, by omega, rfl, rfl, rfl, m4⟩
    case round =>
      obtain ⟨i, B, c, hi4, hgk, rfl, rfl, m5⟩ := hrel
      by_cases hlt : i < 4
      · have hii : (i : Int) < 4 := by omega
        have hC := HaC.out i hlt
        have hH := HaH.out i hlt
        have hL := HaL.out i hlt
        have hc1 := Hch.out i
        have hl1 := Hlv.out i
        generalize hc2 : k.c i = cv at *
        generalize hh2 : k.d i = hv at *
        generalize hl2 : k.l i = lv at *
        have HU : Hid (k.upto (i + 1) = k.upto i ++ [cv, hv, lv]) := by show _ = _; rw [Kn.upto_succ, hc2, hh2, hl2]
        have hw1 : IntKind.u64.wrap (cv : Int) = (cv : Int) := wrap_u64_nat (by omega)
        have hw2 : IntKind.u64.wrap (lv : Int) = (lv : Int) := wrap_u64_nat (by omega)
        clear hc2 hh2 hl2
        go_wp2_with fail
        go_region_held3 (fun u => u.cell? ⟨w.heap.size, 7 + i, none⟩ = some (vu8 cv) ∧ u.cell? ⟨w.heap.size, 11 + i, none⟩ = some (vu64 hv) ∧ u.cell? ⟨w.heap.size, 15 + i, none⟩ = some (vu32 lv)) (refine ⟨?_, ?_, ?_⟩ <;> (rw [cell_of]; assumption))
          ((refine wp_append_row (t := 91) (s := .tmp 36) (x := .tmp 51) (by rfl) (inferInstance : Mod _ w0 _) (v := .slice B (9 + 3 * i) c) (n := 9 + 3 * i) (by rfl) (A := some ⟨wr.heap.size, 0, none⟩) (k := 3) (c := 3) (by rfl) (r := reads_blk rfl rfl) (by simp [Value.oneCell']) (by unfold maxLen; omega) (by omega) ?_; intro A' c' w7 m7))
        simp only [emp_sep] at m7
        rw [show u64s (k.first 0 ++ k.upto i) ++ [vu64 cv, vu64 hv, vu64 lv] = u64s (k.first 0 ++ k.upto (i + 1)) by rw [HU.out]; simp] at m7
        go_wp2_with fail
        go_roundg (4 - (i + 1))
        case measure => omega
        case rel => exact ⟨i + 1, A', c', by omega, rfl, rfl, by go_num, drop_mid m7⟩
      · have hi : i = 4 := by omega
        subst hi
        go_wp2_with fail
        go_ret
        exact ⟨B, c, rfl, by rw [HN.out]; exact Mod.to (m := Mod.drop (A := blk w.heap.size (.cells k.cells 171 (0, 0))) (m := Mod.to (m := m5) (sep_left_comm _ _ _))) rfl⟩
  · go_enter Tryz.func261, Tryz.ntmps261
    go_wp2_with fail
    have m3 : Mod ((w.alloc (.cells k.cells 171)).alloc (.cells #[vu64 k.epoch, vu64 k.most, vu64 k.index, vu64 k.holder, vu64 k.stamp, vu64 1, vu64 k.many, vu64 k.g0, vu64 k.g1] 90)) w0 (blk (w.heap.size + 1) (.cells #[vu64 k.epoch, vu64 k.most, vu64 k.index, vu64 k.holder, vu64 k.stamp, vu64 1, vu64 k.many, vu64 k.g0, vu64 k.g1] 90 (0, 0)) * (blk w.heap.size (.cells k.cells 171 (0, 0)) * S)) := inferInstance
    have m4 : Mod _ w0 (rowA 90 1 (.slice (some ⟨w.heap.size + 1, 0, none⟩) 9 9) 9 (u64s (k.first 1 ++ k.upto 0)) * (blk w.heap.size (.cells k.cells 171 (0, 0)) * S)) := row_shut m3 (Nat.le_refl _) (by decide) rfl rfl rfl
    clear m m3
    go_loopg [4, 33] 4 (fun gk ov iv wr => ∃ (i : Nat) (B : Option Addr) (c : Nat), i ≤ 4 ∧ gk = 4 - i ∧ ov = .slice B (9 + 3 * i) c ∧ iv = .int .i64 (i : Int) ∧ Mod wr w0 (rowA 90 1 (.slice B (9 + 3 * i) c) (9 + 3 * i) (u64s (k.first 1 ++ k.upto i)) * (blk w.heap.size (.cells k.cells 171 (0, 0)) * S)))
    case atStart => exact ⟨0, _, _, by omega, rfl, rfl, rfl, m4⟩
    case round =>
      obtain ⟨i, B, c, hi4, hgk, rfl, rfl, m5⟩ := hrel
      by_cases hlt : i < 4
      · have hii : (i : Int) < 4 := by omega
        have hC := HaC.out i hlt
        have hH := HaH.out i hlt
        have hL := HaL.out i hlt
        have hc1 := Hch.out i
        have hl1 := Hlv.out i
        generalize hc2 : k.c i = cv at *
        generalize hh2 : k.d i = hv at *
        generalize hl2 : k.l i = lv at *
        have HU : Hid (k.upto (i + 1) = k.upto i ++ [cv, hv, lv]) := by show _ = _; rw [Kn.upto_succ, hc2, hh2, hl2]
        have hw1 : IntKind.u64.wrap (cv : Int) = (cv : Int) := wrap_u64_nat (by omega)
        have hw2 : IntKind.u64.wrap (lv : Int) = (lv : Int) := wrap_u64_nat (by omega)
        clear hc2 hh2 hl2
        go_wp2_with fail
        go_region_held3 (fun u => u.cell? ⟨w.heap.size, 7 + i, none⟩ = some (vu8 cv) ∧ u.cell? ⟨w.heap.size, 11 + i, none⟩ = some (vu64 hv) ∧ u.cell? ⟨w.heap.size, 15 + i, none⟩ = some (vu32 lv)) (refine ⟨?_, ?_, ?_⟩ <;> (rw [cell_of]; assumption))
          ((refine wp_append_row (t := 91) (s := .tmp 36) (x := .tmp 51) (by rfl) (inferInstance : Mod _ w0 _) (v := .slice B (9 + 3 * i) c) (n := 9 + 3 * i) (by rfl) (A := some ⟨wr.heap.size, 0, none⟩) (k := 3) (c := 3) (by rfl) (r := reads_blk rfl rfl) (by simp [Value.oneCell']) (by unfold maxLen; omega) (by omega) ?_; intro A' c' w7 m7))
        simp only [emp_sep] at m7
        rw [show u64s (k.first 1 ++ k.upto i) ++ [vu64 cv, vu64 hv, vu64 lv] = u64s (k.first 1 ++ k.upto (i + 1)) by rw [HU.out]; simp] at m7
        go_wp2_with fail
        go_roundg (4 - (i + 1))
        case measure => omega
        case rel => exact ⟨i + 1, A', c', by omega, rfl, rfl, by go_num, drop_mid m7⟩
      · have hi : i = 4 := by omega
        subst hi
        go_wp2_with fail
        go_ret
        exact ⟨B, c, rfl, by rw [HN.out]; exact Mod.to (m := Mod.drop (A := blk w.heap.size (.cells k.cells 171 (0, 0))) (m := Mod.to (m := m5) (sep_left_comm _ _ _))) rfl⟩
end Go.Proofs.YtkdiejbpleojnaaGreatDoor
namespace Go.Proofs.YtkdiejbpleojnaaGreatDoor
open Go.RowKit Go.Sl
set_option maxRecDepth 100000 in
theorem und_knows : ∃ fs, Tryz.prog.underlying 171 = some (.struct fs) := ⟨_, Tryz.underlying171⟩
set_option maxRecDepth 100000 in
theorem size_knows : (Tryz.prog.info? 171).map (·.size) = some 21 := by kernel_rfl
/-- S knows what is known that lies in block g from a place on. -/
class HasKn (S : Asn) (g o : Nat) (k : outParam Kn) : Prop where
  has : ∀ h, S.says h → ∃ cs t fr, h g = some (.cells cs t fr) ∧ ∀ (j : Nat) v, k.cells[j]? = some v → cs[o + j]? = some v
instance HasKn.blk (g : Nat) (k : Kn) (t : TypeId) (fr : Nat × Nat) : HasKn (blk g (.cells k.cells t fr)) g 0 k := ⟨fun h hh => ⟨k.cells, t, fr, by rw [hh]; simp [Hp.one], fun j v hv => by rwa [Nat.zero_add]⟩⟩
instance HasKn.left (A B : Asn) (g o : Nat) (k : Kn) [ha : HasKn A g o k] : HasKn (A * B) g o k :=
  ⟨by
    rintro h ⟨a, b, _, rfl, h1, _⟩
    obtain ⟨cs, t, fr, hh, hc⟩ := ha.has a h1
    exact ⟨cs, t, fr, by simp [Hp.join, hh], hc⟩⟩
instance HasKn.right (A B : Asn) (g o : Nat) (k : Kn) [hb : HasKn B g o k] : HasKn (A * B) g o k :=
  ⟨by
    rintro h ⟨a, b, h0, rfl, h1, h2⟩
    obtain ⟨cs, t, fr, hh, hc⟩ := hb.has b h2
    refine ⟨cs, t, fr, ?_, hc⟩
    rcases h0 g with h3 | h3
    · simp [Hp.join, h3, hh]
    · rw [h3] at hh; cases hh⟩
theorem range_kn {w w0 : World} {S : Asn} {g o : Nat} {k : Kn} [m : Mod w w0 S] [h : HasKn S g o k] : w.rangeAt g o k.cells.toList := fun j v hv => by
  obtain ⟨a, b, _, h2, h3, _⟩ := m.says
  obtain ⟨cs, t, fr, hh, hc⟩ := h.has a h3
  have e : w.heap[g]? = some (.cells cs t fr) := by
    have : hp w g = some (.cells cs t fr) := by rw [h2]; simp [Hp.join, hh]
    exact this
  have := hc j v (by rw [← Array.getElem?_toList]; exact hv)
  simp [World.cell?, e, this]
/-- The load, at a plain region's list. -/
theorem wpList_load_kn {ops : Array Oper} {rest : List Oper} {op : Oper} {a : Act} {w w0 : World} {S : Asn} {Q : Exit → Act → World → Prop} {g o : Nat} {k : Kn} [m : Mod w w0 S] (hgd : op.guard = none) {x : Operand} (ho : op.op = .load 171 x)
    (hx : a.eval x = .pointer (some ⟨g, o, none⟩)) [h : HasKn S g o k] (hk : wpList Tryz.prog ops Q rest (a.put op.dst (.agg k.cells)) w) : wpList Tryz.prog ops Q (op :: rest) a w := by
  obtain ⟨fs, hu⟩ := und_knows
  refine wpList_load_mid hgd 171 x ho g o hx k.cells.toList _ range_kn hu rfl (by rw [size_knows]; rfl) ?_
  simpa using hk
end Go.Proofs.YtkdiejbpleojnaaGreatDoor
namespace Go.Proofs.YtkdiejbpleojnaaGreatDoor
open Go.RowKit Go.Sl
attribute [local go_sem] cell_of frozen_of zero_names Kn.at0 Kn.at1 Kn.at2 Kn.at3 Kn.at4 Kn.at5 Kn.at6 Kn.at7 Kn.at8 Kn.at9 Kn.at10 Kn.at11 Kn.at12 Kn.at13 Kn.at14 Kn.at15 Kn.at16 Kn.at17 Kn.at18 Kn.at19 Kn.at20
theorem be8_take_succ (n j : Nat) (hj : j < 8) : (be8 n).take (j + 1) = (be8 n).take j ++ [UInt8.ofNat (n / 2 ^ (56 - 8 * j))] := by
  have hl : j < (be8 n).length := by simpa [be8] using hj
  rw [List.take_succ_eq_append_getElem hl]
  simp [be8]
theorem be8_value (n j : Nat) : (.int .u8 ((n : Int) / 2 ^ (56 - 8 * j) % 256) : Value) = .int .u8 ((UInt8.ofNat (n / 2 ^ (56 - 8 * j))).toNat : Int) := by
  have e : ((n : Int) / 2 ^ (56 - 8 * j) % 256) = ((n / 2 ^ (56 - 8 * j) % 256 : Nat) : Int) := by rw [Int.natCast_emod, Int.natCast_ediv, Int.natCast_pow]; rfl
  rw [e, UInt8.toNat_ofNat']
set_option maxRecDepth 4000 in
set_option maxHeartbeats 4000000 in
theorem kbytes_spec (k : Kn) (h : KnOk k) (w w0 : World) (S : Asn) (m : Mod w w0 S) :
    Calls Tryz.prog 201 #[.agg k.cells] w fun e w' => ∃ B c, e = .returned (.slice B 168 c) ∧ Mod w' w0 (rowA 5 1 (.slice B 168 c) 168 (u8s k.bytes) * S) := by
  have hnl := Kn.nums_length k
  have hrange := Kn.nums_lt h
  go_enter Tryz.func201, Tryz.ntmps201
  go_wp2_with (refine wpList_load_kn rfl rfl rfl ?_)
  refine (knumbers_spec k h _ w0 _ inferInstance).mono ?_
  rintro e w1 ⟨Bn, cn, rfl, m1⟩
  obtain ⟨ns, hns⟩ : ∃ ns, k.nums = ns := ⟨_, rfl⟩
  have HB : Hid (k.bytes = ns.flatMap be8) := by show _ = _; rw [← hns]; rfl
  rw [hns] at m1 hnl hrange
  clear hns h m
  go_wp2_with fail
  go_loopg [2, 9] 21 (fun gk ov iv wr => ∃ (i : Nat) (B : Option Addr) (c : Nat), i ≤ 21 ∧ gk = 21 - i ∧ ov = .slice B (8 * i) c ∧ iv = .int .i64 (i : Int) ∧ Mod wr w0 (rowA 5 1 (.slice B (8 * i) c) (8 * i) (u8s ((ns.take i).flatMap be8)) * (rowA 90 1 (.slice Bn 21 cn) 21 (u64s ns) * (blk w.heap.size (.cells k.cells 171 (0, 0)) * S))))
  case atStart => exact ⟨0, none, 0, by omega, rfl, rfl, rfl, row_none m1⟩
  case round =>
    obtain ⟨i, B, c, hi, hgk, rfl, rfl, m2⟩ := hrel
    by_cases hlt : i < 21
    · have hii : (i : Int) < 21 := by omega
      obtain ⟨ad, hA, hsp, hcl⟩ := reads_cell m2 (inferInstance : Reads _ Bn 21 (u64s ns)) (by omega)
      obtain ⟨bn, on_, sp⟩ := ad
      simp only at hsp
      subst hsp hA
      have hil : i < ns.length := by omega
      have hx := hcl i (vu64 ns[i]) (by simp [hil])
      have hn := hrange _ (List.getElem_mem hil)
      have HT : Hid ((ns.take (i + 1)).flatMap be8 = (ns.take i).flatMap be8 ++ be8 ns[i]) := by
        show _ = _
        rw [List.take_succ_eq_append_getElem hil, List.flatMap_append]; simp
      generalize ns[i] = n at *
      clear hcl
      go_wp2_with fail
      go_loopg [2, 5] 8 (fun gk2 ov sv wr2 => ∃ (j : Nat) (B : Option Addr) (c : Nat), j ≤ 8 ∧ gk2 = 8 - j ∧ ov = .slice B (8 * i + j) c ∧ sv = .int .i64 (56 - 8 * (j : Int)) ∧ Mod wr2 w0 (rowA 5 1 (.slice B (8 * i + j) c) (8 * i + j) (u8s ((ns.take i).flatMap be8 ++ (be8 n).take j)) * (rowA 90 1 (.slice (some ⟨bn, on_, none⟩) 21 cn) 21 (u64s ns) * (blk w.heap.size (.cells k.cells 171 (0, 0)) * S))))
      case atStart => exact ⟨0, B, c, by omega, rfl, rfl, rfl, by rw [List.take_zero, List.append_nil]; exact m2⟩
      case round =>
        obtain ⟨j, B2, c2, hj, hgk2, rfl, rfl, m3⟩ := hrel
        by_cases hj8 : j < 8
        · have hji : (0 : Int) ≤ 56 - 8 * (j : Int) := by omega
          go_wp2_with (at_builtin; (refine wpList_append (v := .slice B2 (8 * i + j) c2) (k := 1) (c := 1) (news := [.int .u8 ((n : Int) / 2 ^ (56 - 8 * j) % 256)]) (r := reads_blk rfl rfl) rfl rfl inferInstance rfl rfl (by simp [Value.oneCell']) (by unfold maxLen; omega) (by omega) ?_); intro A' c' w10 m10)
          simp only [emp_sep] at m10
          rw [be8_value, show u8s ((ns.take i).flatMap be8 ++ (be8 n).take j) ++ [.int .u8 ((UInt8.ofNat (n / 2 ^ (56 - 8 * j))).toNat : Int)] = u8s ((ns.take i).flatMap be8 ++ (be8 n).take (j + 1)) by rw [be8_take_succ n j hj8]; simp [u8s]] at m10
          go_roundg (8 - (j + 1))
          case measure => omega
          case rel => exact ⟨j + 1, A', c', by omega, rfl, rfl, by go_num, drop_mid m10⟩
        · have hj2 : j = 8 := by omega
          subst hj2
          have hji : ¬ ((0 : Int) ≤ 56 - 8 * ((8 : Nat) : Int)) := by omega
          rw [List.take_of_length_le (show (be8 n).length ≤ 8 by simp [be8]), ← HT.out] at m3
          go_wp2_with fail
          go_roundg (21 - (i + 1))
          case measure => omega
          case rel => exact ⟨i + 1, B2, c2, by omega, rfl, rfl, by go_num, m3⟩
    · have hi2 : i = 21 := by omega
      subst hi2
      rw [List.take_of_length_le (by omega), ← HB.out] at m2
      have hii : ¬ (((21 : Nat) : Int) < 21) := by omega
      go_wp2_with fail
      go_ret
      exact ⟨B, c, rfl, Mod.to (m := Mod.drop (A := rowA 90 1 (.slice Bn 21 cn) 21 (u64s ns)) (m := Mod.drop (A := blk w.heap.size (.cells k.cells 171 (0, 0))) (m := Mod.to (m := m2) (by ac_rfl)))) (by ac_rfl)⟩
end Go.Proofs.YtkdiejbpleojnaaGreatDoor
namespace Go.Sl
/-- the cells of a decider -/
structure DecV where
  pd : Nat
  pj : Option Nat
  name : ByteArray
  lines : Nat
  kn : Kn
  seals : Bool
  jA : Option Addr
  jn : Nat
  jc : Nat
  a0 : Option Nat
  a1 : Option Nat
  a2 : Option Nat
  a3 : Option Nat
  a4 : Option Nat
abbrev vptr (o : Option Nat) : Value := .pointer (o.map fun g => ⟨g, 0, none⟩)
def DecV.cells (v : DecV) : Array Value :=
  #[.pointer (some ⟨v.pd, 0, none⟩), vptr v.pj, .string v.name, .int .i64 (v.lines : Int), vu32 v.kn.epoch, vu32 v.kn.most, vu64 v.kn.index, vu8 v.kn.holder, vu32 v.kn.stamp, .bool v.kn.lost, .int .i64 (v.kn.many : Int), vu8 (v.kn.c 0), vu8 (v.kn.c 1), vu8 (v.kn.c 2), vu8 (v.kn.c 3),
    vu64 (v.kn.d 0), vu64 (v.kn.d 1), vu64 (v.kn.d 2), vu64 (v.kn.d 3), vu32 (v.kn.l 0), vu32 (v.kn.l 1), vu32 (v.kn.l 2), vu32 (v.kn.l 3), vu64 v.kn.g0, vu64 v.kn.g1, .bool v.seals, .slice v.jA v.jn v.jc, vptr v.a0, vptr v.a1, vptr v.a2, vptr v.a3, vptr v.a4]
theorem DecV.at0 (v : DecV) : v.cells[0]? = some (.pointer (some ⟨v.pd, 0, none⟩)) := rfl
theorem DecV.at1 (v : DecV) : v.cells[1]? = some (vptr v.pj) := rfl
theorem DecV.at2 (v : DecV) : v.cells[2]? = some (.string v.name) := rfl
theorem DecV.at3 (v : DecV) : v.cells[3]? = some (.int .i64 (v.lines : Int)) := rfl
theorem DecV.at4 (v : DecV) : v.cells[4]? = some (vu32 v.kn.epoch) := rfl
theorem DecV.at5 (v : DecV) : v.cells[5]? = some (vu32 v.kn.most) := rfl
theorem DecV.at6 (v : DecV) : v.cells[6]? = some (vu64 v.kn.index) := rfl
theorem DecV.at7 (v : DecV) : v.cells[7]? = some (vu8 v.kn.holder) := rfl
theorem DecV.at8 (v : DecV) : v.cells[8]? = some (vu32 v.kn.stamp) := rfl
theorem DecV.at9 (v : DecV) : v.cells[9]? = some (.bool v.kn.lost) := rfl
theorem DecV.at10 (v : DecV) : v.cells[10]? = some (.int .i64 (v.kn.many : Int)) := rfl
theorem DecV.at11 (v : DecV) : v.cells[11]? = some (vu8 (v.kn.c 0)) := rfl
theorem DecV.at12 (v : DecV) : v.cells[12]? = some (vu8 (v.kn.c 1)) := rfl
theorem DecV.at13 (v : DecV) : v.cells[13]? = some (vu8 (v.kn.c 2)) := rfl
theorem DecV.at14 (v : DecV) : v.cells[14]? = some (vu8 (v.kn.c 3)) := rfl
theorem DecV.at15 (v : DecV) : v.cells[15]? = some (vu64 (v.kn.d 0)) := rfl
theorem DecV.at16 (v : DecV) : v.cells[16]? = some (vu64 (v.kn.d 1)) := rfl
theorem DecV.at17 (v : DecV) : v.cells[17]? = some (vu64 (v.kn.d 2)) := rfl
theorem DecV.at18 (v : DecV) : v.cells[18]? = some (vu64 (v.kn.d 3)) := rfl
theorem DecV.at19 (v : DecV) : v.cells[19]? = some (vu32 (v.kn.l 0)) := rfl
theorem DecV.at20 (v : DecV) : v.cells[20]? = some (vu32 (v.kn.l 1)) := rfl
theorem DecV.at21 (v : DecV) : v.cells[21]? = some (vu32 (v.kn.l 2)) := rfl
theorem DecV.at22 (v : DecV) : v.cells[22]? = some (vu32 (v.kn.l 3)) := rfl
theorem DecV.at23 (v : DecV) : v.cells[23]? = some (vu64 v.kn.g0) := rfl
theorem DecV.at24 (v : DecV) : v.cells[24]? = some (vu64 v.kn.g1) := rfl
theorem DecV.at25 (v : DecV) : v.cells[25]? = some (.bool v.seals) := rfl
theorem DecV.at26 (v : DecV) : v.cells[26]? = some (.slice v.jA v.jn v.jc) := rfl
theorem DecV.at27 (v : DecV) : v.cells[27]? = some (vptr v.a0) := rfl
theorem DecV.at28 (v : DecV) : v.cells[28]? = some (vptr v.a1) := rfl
theorem DecV.at29 (v : DecV) : v.cells[29]? = some (vptr v.a2) := rfl
theorem DecV.at30 (v : DecV) : v.cells[30]? = some (vptr v.a3) := rfl
theorem DecV.at31 (v : DecV) : v.cells[31]? = some (vptr v.a4) := rfl
theorem DecV.kn_at (v : DecV) (j : Nat) (x : Value) (h : v.kn.cells[j]? = some x) : v.cells[4 + j]? = some x := by
  have hj : j < 21 := (Array.getElem?_eq_some_iff.1 h).1
  have e : v.cells = ([.pointer (some ⟨v.pd, 0, none⟩), vptr v.pj, .string v.name, .int .i64 (v.lines : Int)] ++ (v.kn.cells.toList ++ [.bool v.seals, .slice v.jA v.jn v.jc, vptr v.a0, vptr v.a1, vptr v.a2, vptr v.a3, vptr v.a4])).toArray := rfl
  rw [e, List.getElem?_toArray, List.getElem?_append_right (by simp), List.getElem?_append_left (by simp [Kn.size]; omega)]
  simp only [List.length_cons, List.length_nil, Nat.zero_add, Nat.reduceAdd, Nat.add_sub_cancel_left, Array.getElem?_toList]
  exact h
end Go.Sl
namespace Go.Proofs.YtkdiejbpleojnaaGreatDoor
open Go.RowKit Go.Sl
attribute [local go_sem] cell_of frozen_of zero_names DecV.at0 DecV.at1 DecV.at2 DecV.at3 DecV.at4 DecV.at5 DecV.at6 DecV.at7 DecV.at8 DecV.at9 DecV.at10 DecV.at11 DecV.at12 DecV.at13 DecV.at14 DecV.at15 DecV.at16 DecV.at17 DecV.at18 DecV.at19 DecV.at20 DecV.at21 DecV.at22 DecV.at23 DecV.at24 DecV.at25 DecV.at26 DecV.at27 DecV.at28 DecV.at29 DecV.at30 DecV.at31
abbrev decB (x : Nat) (v : DecV) : Asn := blk x (.cells v.cells 175 (0, 0))
instance HasKn.dec (x : Nat) (v : DecV) (t : TypeId) (fr : Nat × Nat) : HasKn (Go.Sl.blk x (.cells v.cells t fr)) x 4 v.kn := ⟨fun h hh => ⟨v.cells, t, fr, by rw [hh]; simp [Hp.one], fun j y hy => DecV.kn_at v j y hy⟩⟩
/-- A disk with one file more, of so many sure bytes. -/
def withFile (D : DiskSt) (name : ByteArray) (g : Nat) (b : List UInt8) (su : Nat) : DiskSt := ⟨D.size, mput D.now name g, D.sure, (g, ⟨b, su⟩) :: D.files⟩
def stage (D : DiskSt) (name : ByteArray) (g : Nat) (b : List UInt8) : Nat → DiskSt
  | 0 => withFile D name g b 0
  | 1 => withFile D name g b b.length
  | _ => { withFile D name g b b.length with sure := mput D.now name g }
theorem withFile_mget {D : DiskSt} {name : ByteArray} (hg : mget D.now name = none) (g : Nat) (b : List UInt8) (su : Nat) : mget (withFile D name g b su).now name = some g := mget_fresh hg g
theorem withFile_fget (D : DiskSt) (name : ByteArray) (g : Nat) (b : List UInt8) (su : Nat) : fget (withFile D name g b su).files g = some ⟨b, su⟩ := by simp [withFile, fget]
theorem withFile_put (D : DiskSt) (name : ByteArray) (g : Nat) (b c : List UInt8) (su su2 : Nat) : ({ withFile D name g b su with files := fset (withFile D name g b su).files g ⟨c, su2⟩ } : DiskSt) = withFile D name g c su2 := by simp [withFile, fset]
theorem steps_shape {w w0 : World} {X D J E : Asn} (m : Mod w w0 (X * (D * (J * E)))) : Mod w w0 (D * (J * (X * E))) := Mod.to (m := m) (by ac_rfl)
theorem steps_back {w w0 : World} {X D J E : Asn} (m : Mod w w0 (D * (J * (X * E)))) : Mod w w0 (X * (D * (J * E))) := Mod.to (m := m) (by ac_rfl)
theorem mget_app {α : Type} {L : List (ByteArray × α)} {s : ByteArray} {g : α} (h : mget L s = some g) (M : List (ByteArray × α)) : mget (L ++ M) s = some g := by
  unfold mget at h ⊢
  cases hf : L.find? (fun p => decide (p.1 = s)) with
  | none => rw [hf] at h; cases h
  | some q => rw [hf] at h; rw [List.find?_append, hf]; exact h
/-- What begin leaves. -/
def BeginSays (x : Nat) (v : DecV) (D : DiskSt) (name : ByteArray) (F : Asn) (w0 : World) (e : Ending) (w' : World) : Prop :=
  e = .returned (.int .i64 0) ∧ ∃ g j, fget D.files g = none ∧ Mod w' w0 (decB x { v with pj := some j, name := name, lines := 1 } * (diskA v.pd (if v.name = name then stage D name g (writ 0 true v.kn.bytes) 2 else
    { stage D name g (writ 0 true v.kn.bytes) 2 with now := mdel (mput D.now name g) v.name, sure := mdel (mput D.now name g) v.name }) * (jourA j v.pd name (writ 0 true v.kn.bytes).length * F)))
section
variable (x p : Nat) (v : DecV) (D : DiskSt) (name : ByteArray) (w w0 : World) (F : Asn)
set_option maxRecDepth 4000 in
set_option maxHeartbeats 4000000 in
theorem begin_spec (m : Mod w w0 (decB x v * (diskA p D * F))) (hp : v.pd = p) (hk : KnOk v.kn) (hs : name.size ≤ 9223372036854775807) (hn : nameOk name = true) (hg : mget D.now name = none) (hroom : D.now.length < 64) (hl : 400 ≤ leftOf D) (hold : v.name = name ∨ nameOk v.name = true ∧ v.name.size ≤ 9223372036854775807 ∧ ∃ g0, mget D.now v.name = some g0) :
    Calls Tryz.prog 134 #[ptr x, .string name] w (BeginSays x v D name F w0) := by
  subst hp
  have Hold := Lib.hid hold
  clear hold
  go_enter Tryz.func134, Tryz.ntmps134
  go_wp2_with first | (refine wpList_load_kn rfl rfl rfl ?_) | (go_at_call 15; refine (remove_none v.pd D name _ w0 _ _ m inferInstance hs hn hg).mono ?_; rintro e w1 ⟨rfl, m1⟩)
  refine (jopen_new v.pd D name w1 w0 _ (Mod.to (m := m1) (sep_left_comm _ _ _)) hs hn hg hroom).mono ?_
  rintro e w2 ⟨g, hgf, j, A, R, rfl, _, m2⟩
  go_wp2_with first | (refine wpList_load_kn rfl rfl rfl ?_)
  refine (kbytes_spec v.kn hk w2 w0 _ m2).mono ?_
  rintro e w3 ⟨B, c, rfl, m3⟩
  have hle := row_le (m := m3)
  have hbl := Kn.bytes_length v.kn
  have HW := Lib.hid (writ_le 0 true v.kn.bytes)
  have hleft : leftOf (created D name g) = leftOf D := by
    obtain ⟨_, _, hok, _⟩ := disk_open m (inferInstance : Take _ (diskA v.pd) D _)
    rw [left_used, left_used, used_created hok hg hgf]; rfl
  have m4 : Mod w3 w0 (diskA v.pd (created D name g) * (jourA j v.pd name 0 * (rowA 5 1 (.slice B 168 c) 168 (u8s v.kn.bytes) * (R * (decB x v * F))))) := Mod.to (m := m3) (by ac_rfl)
  clear m1 m2 m3
  have hA := add_ok j v.pd (created D name g) name w3 w0 _ B c v.kn.bytes g ⟨[], 0⟩ hs hn (mget_fresh hg g) (by simp [created, fget]) m4 (by rw [hbl]; infer_instance) (by omega) (by omega) (by have := HW.out; rw [hleft]; simp only [List.length_nil]; omega) (by have := HW.out; simp only [List.length_nil]; omega)
  rw [hbl] at hA
  go_wp2_with fail
  refine hA.mono ?_
  rintro e w5 ⟨rfl, m5⟩
  clear hA m4
  go_wp2_with fail
  obtain ⟨b, hb⟩ : ∃ b, [] ++ writ ([] : List UInt8).length true v.kn.bytes = b := ⟨_, rfl⟩
  rw [hb] at m5
  rw [List.nil_append, List.length_nil] at hb
  have Hb := Lib.hid hb
  clear hb
  have m6 : Mod w5 w0 (diskA v.pd (withFile D name g b 0) * (jourA j v.pd name b.length * (decB x v * F))) := by
    have e : (⟨(created D name g).size, (created D name g).now, (created D name g).sure, fset (created D name g).files g ⟨b, 0⟩⟩ : DiskSt) = withFile D name g b 0 := by simp [withFile, created, fset]
    rw [← e]
    exact Mod.drop (A := rowA 5 1 (.slice B 168 c) 168 (u8s v.kn.bytes) * R) (m := Mod.to (m := m5) (by ac_rfl))
  clear m5
  go_loopg [7, 44] 2 (fun gk ev iv wr => ∃ (i : Nat), i ≤ 2 ∧ gk = 2 - i ∧ ev = .int .i64 0 ∧ iv = .int .i64 (i : Int) ∧ Mod wr w0 (blk w5.heap.size (.cells #[.func (.func 43) #[ptr j] #[], .func (.func 27) #[.pointer (some ⟨v.pd, 0, none⟩)] #[]] 57 (0, 0)) * (diskA v.pd (stage D name g b i) * (jourA j v.pd name b.length * (decB x v * F)))))
  case atStart => exact ⟨0, by omega, rfl, rfl, rfl, inferInstance⟩
  case round =>
    obtain ⟨i, hi, hgk, rfl, rfl, m7⟩ := hrel
    rcases (by omega : i = 0 ∨ i = 1 ∨ i = 2) with rfl | rfl | rfl
    · go_wp2_with fail
      refine (jsync_some j v.pd (withFile D name g b 0) name wr w0 _ b.length (steps_shape m7) hs hn g ⟨b, 0⟩ (withFile_mget hg g b 0) (withFile_fget D name g b 0)).mono ?_
      rintro e w8 ⟨rfl, m8⟩
      rw [withFile_put] at m8
      go_wp2_with fail
      go_roundg 1
      case measure => omega
      case rel => exact ⟨1, by omega, rfl, rfl, rfl, steps_back m8⟩
    · go_wp2_with fail
      refine (names_spec v.pd (withFile D name g b b.length) wr w0 _ _ m7 inferInstance).mono ?_
      rintro e w8 ⟨rfl, m8⟩
      go_wp2_with fail
      go_roundg 0
      case measure => omega
      case rel => exact ⟨2, by omega, rfl, rfl, rfl, by simp only [emp_sep] at m8; exact Mod.to (m := m8) (by show _ = _; ac_rfl)⟩
    · have m8 : Mod wr w0 (diskA v.pd (stage D name g b 2) * (jourA j v.pd name b.length * (decB x v * F))) := Mod.drop (m := m7)
      clear m7 m6
      by_cases hnm : v.name = name
      · have hnn : (v.name.toList == name.toList) = true := by rw [hnm]; simp
        have Hnm := Lib.hid hnm
        clear hnm
        go_wp2_with fail
        go_ret
        have m9 : Mod (((wr.setCell ⟨x, 1, none⟩ (.pointer (some ⟨j, 0, none⟩))).setCell ⟨x, 2, none⟩ (.string name)).setCell ⟨x, 3, none⟩ (.int .i64 1)) w0 _ := inferInstance
        simp only [emp_sep] at m9
        refine ⟨rfl, g, j, hgf, ?_⟩
        rw [if_pos Hnm.out, Hb.out]
        exact m9
      · have hnn : (v.name.toList == name.toList) = false := beq_eq_false_iff_ne.2 fun e => hnm (toList_inj e)
        obtain ⟨hok0, hs0, g0, hg0⟩ := Hold.out.resolve_left hnm
        have hg2 : mget (stage D name g b 2).now v.name = some g0 := by
          show mget (mput D.now name g) v.name = some g0
          rw [mput_new hg]
          exact mget_app hg0 _
        have Hnm := Lib.hid hnm
        clear hnm
        go_wp2_with fail
        obtain ⟨SS, hSS, mSS⟩ : ∃ SS, SS = _ ∧ Mod wr w0 SS := ⟨_, rfl, m8⟩
        have hj : Has SS x (.cells v.cells 175 (0, 0)) := by rw [hSS]; infer_instance
        have HSS := Lib.hid hSS
        clear hSS m8
        have := Held.some mSS
        refine wp_region_mod_tail 8 mSS (by kernel_rfl) (by kernel_rfl) ?_
        simp only [List.take_succ_cons, List.take_zero, List.drop_succ_cons, List.drop_zero]
        repeat (go_big_quiet_step (fail))
        refine wpQuiet_nil ?_
        rintro w9 ⟨s, rfl⟩
        have m9 := Mod.to (m := s.mod) HSS.out
        clear mSS hj HSS this
        generalize s.world = w9 at *
        go_wp2_with fail
        refine (remove_ok v.pd (stage D name g b 2) v.name w9 w0 _ _ m9 inferInstance hs0 g0 hok0 hg2).mono ?_
        rintro e w10 ⟨rfl, m10⟩
        simp only [emp_sep] at m10
        clear m9
        go_wp2_with fail
        refine (names_spec v.pd { stage D name g b 2 with now := mdel (stage D name g b 2).now v.name } w10 w0 _ _ m10 inferInstance).mono ?_
        rintro e w11 ⟨rfl, m11⟩
        simp only [emp_sep] at m11
        clear m10
        go_wp2_with fail
        go_ret
        have m12 : Mod (((w11.setCell ⟨x, 1, none⟩ (.pointer (some ⟨j, 0, none⟩))).setCell ⟨x, 2, none⟩ (.string name)).setCell ⟨x, 3, none⟩ (.int .i64 1)) w0 _ := inferInstance
        simp only [emp_sep] at m12
        refine ⟨rfl, g, j, hgf, ?_⟩
        rw [if_neg Hnm.out, Hb.out]
        exact m12
end
end Go.Proofs.YtkdiejbpleojnaaGreatDoor
namespace Go.Sl
def nd0 : ByteArray := ⟨#[100, 45, 48]⟩
def nd1 : ByteArray := ⟨#[100, 45, 49]⟩
def otherName (s : ByteArray) : ByteArray := if s = nd0 then nd1 else nd0
end Go.Sl
namespace Go.Proofs.YtkdiejbpleojnaaGreatDoor
open Go.RowKit Go.Sl
attribute [local go_sem] cell_of frozen_of zero_names DecV.at0 DecV.at1 DecV.at2 DecV.at3 DecV.at4 DecV.at5 DecV.at6 DecV.at7 DecV.at8 DecV.at9 DecV.at10 DecV.at11 DecV.at12 DecV.at13 DecV.at14 DecV.at15 DecV.at16 DecV.at17 DecV.at18 DecV.at19 DecV.at20 DecV.at21 DecV.at22 DecV.at23 DecV.at24 DecV.at25 DecV.at26 DecV.at27 DecV.at28 DecV.at29 DecV.at30 DecV.at31
theorem ok_d0 : nameOk nd0 = true := by unfold nd0; rw [nameOk_eq]; decide
theorem ok_d1 : nameOk nd1 = true := by unfold nd1; rw [nameOk_eq]; decide
theorem ne_d01 : nd0 ≠ nd1 := by decide
/-- A decider, its disk, and what its journal tells. -/
structure DecOk (v : DecV) (D : DiskSt) (g : Nat) (ks : List Kn) (b : List UInt8) : Prop where
  size : D.size = 100000
  now : D.now = [(v.name, g)]
  sure : D.sure = [(v.name, g)]
  file : fget D.files g = some ⟨b, b.length⟩
  jour : b = journal [] (ks.map Kn.bytes)
  lines : ks.length = v.lines
  most : v.lines ≤ 200
  last : ks.getLast? = some v.kn
  name : v.name = nd0 ∨ v.name = nd1
  good : ∀ k ∈ ks, KnOk k ∧ KnMay k
theorem one_kn (k : Kn) : k.cells.all (·.oneCell') = true := by simp [Kn.cells, Value.oneCell']
theorem set_kn (v : DecV) (k : Kn) : setMany v.cells 4 k.cells.toList = ({ v with kn := k } : DecV).cells := by
  unfold Kn.cells DecV.cells
  simp only [setMany, List.setIfInBounds_toArray, List.set_cons_zero, List.set_cons_succ]
/-- What is known, stored whole into a decider's block. -/
theorem wpList_store_kn {ops : Array Oper} {rest : List Oper} {op : Oper} {a : Act} {w w0 : World} {S F : Asn} {Q : Exit → Act → World → Prop} {g : Nat} {v : DecV} {k : Kn} [m : Mod w w0 S] (hgd : op.guard = none) {x y : Operand} (ho : op.op = .store 171 x y) (hx : a.eval x = .pointer (some ⟨g, 4, none⟩)) (hy : a.eval y = .agg k.cells)
    [t : Take S (blk g) (.cells v.cells 175 (0, 0)) F] (h : ∀ w', Mod w' w0 (decB g { v with kn := k } * F) → wpList Tryz.prog ops Q rest (a.put op.dst undef) w') : wpList Tryz.prog ops Q (op :: rest) a w := by
  have hh : Has S g (.cells v.cells 175 (0, 0)) := by rw [t.eq]; infer_instance
  have m1 : Mod w w0 (blk g (.cells v.cells 175 (0, 0)) * F) := by rw [← t.eq]; exact m
  refine wpList_store_mid hgd 171 x y ho g 4 k.cells hx hy (fun j hj => ?_) (by rw [size_knows]; rfl) (one_kn k) (h _ ?_)
  · have hc := @cell_of w w0 S g (4 + j) v.cells 175 (0, 0) m hh
    have hf := @frozen_of w w0 S g (4 + j) v.cells 175 m hh
    rw [hc, hf]
    have hj2 : j < 21 := hj
    exact ⟨by rw [Array.getElem?_eq_getElem (show 4 + j < v.cells.size by show 4 + j < 32; omega)]; rfl, rfl⟩
  · have := mod_setMany k.cells.toList 4 w v.cells m1
    rw [set_kn] at this
    exact this
/-- .. into a variable of its own. -/
theorem wpList_store_kn0 {ops : Array Oper} {rest : List Oper} {op : Oper} {a : Act} {w w0 : World} {S F : Asn} {Q : Exit → Act → World → Prop} {g : Nat} {cs : Array Value} {k : Kn} [m : Mod w w0 S] (hgd : op.guard = none) {x y : Operand} (ho : op.op = .store 171 x y) (hx : a.eval x = .pointer (some ⟨g, 0, none⟩)) (hy : a.eval y = .agg k.cells)
    [t : Take S (blk g) (.cells cs 171 (0, 0)) F] (hs : cs.size = 21) (h : ∀ w', Mod w' w0 (blk g (.cells k.cells 171 (0, 0)) * F) → wpList Tryz.prog ops Q rest (a.put op.dst undef) w') : wpList Tryz.prog ops Q (op :: rest) a w := by
  have hh : Has S g (.cells cs 171 (0, 0)) := by rw [t.eq]; infer_instance
  have m1 : Mod w w0 (blk g (.cells cs 171 (0, 0)) * F) := by rw [← t.eq]; exact m
  refine wpList_store_mid hgd 171 x y ho g 0 k.cells hx hy (fun j hj => ?_) (by rw [size_knows]; rfl) (one_kn k) (h _ ?_)
  · have hc := @cell_of w w0 S g j cs 171 (0, 0) m hh
    have hf := @frozen_of w w0 S g j cs 171 m hh
    rw [Nat.zero_add, hc, hf]
    have hj2 : j < 21 := hj
    exact ⟨by rw [Array.getElem?_eq_getElem (by omega)]; rfl, rfl⟩
  · have := mod_setMany k.cells.toList 0 w cs m1
    rw [setMany_all cs k.cells (by rw [hs]; rfl)] at this
    exact this
/-- .. in a region that draws its order. -/
theorem yields_load_kn {ops : Array Oper} {op : Oper} {a : Act} {w0 : World} {SS : Asn} {g o : Nat} {k : Kn} (h : HasKn SS g o k) (hw : Region.wanted op (yielded ops a.tmps) = true) {x : Operand} (ho : op.op = .load 171 x) (hx : a.eval x = .pointer (some ⟨g, o, none⟩)) :
    YieldsIf Tryz.prog ops (fun u => Mod u w0 SS) op (.agg k.cells) a := by
  obtain ⟨fs, hu⟩ := und_knows
  have := yieldsIf_load_mid (P := Tryz.prog) (S := fun u => Mod u w0 SS) hw 171 x ho g o hx k.cells.toList _ (fun u (hm : Mod u w0 SS) => range_kn) hu rfl (by rw [size_knows]; rfl)
  simpa using this
theorem held_of {w w0 : World} {A B C E G : Asn} (m : Mod w w0 (A * (B * (C * (E * G))))) : Mod w w0 (C * E) := Mod.dropR (A := A * (B * G)) (m := Mod.to (m := m) (by ac_rfl))
theorem DecOk.okName {v : DecV} {D : DiskSt} {g : Nat} {ks : List Kn} {b : List UInt8} (h : DecOk v D g ks b) : nameOk v.name = true := by rcases h.name with e | e <;> rw [e] <;> first | exact ok_d0 | exact ok_d1
theorem DecOk.nameSize {v : DecV} {D : DiskSt} {g : Nat} {ks : List Kn} {b : List UInt8} (h : DecOk v D g ks b) : v.name.size ≤ 9223372036854775807 := by rcases h.name with e | e <;> rw [e] <;> decide
theorem DecOk.left {v : DecV} {D : DiskSt} {g : Nat} {ks : List Kn} {b : List UInt8} (h : DecOk v D g ks b) : leftOf D = 100000 - b.length := by
  rw [left_used, used, h.now, h.size]
  simp [total, h.file]
theorem sum_bytes : ∀ ks : List Kn, ((ks.map Kn.bytes).map List.length).sum = 168 * ks.length
  | [] => rfl
  | k :: ks => by simp only [List.map_cons, List.sum_cons, List.length_cons, sum_bytes ks, Kn.bytes_length]; omega
theorem DecOk.small {v : DecV} {D : DiskSt} {g : Nat} {ks : List Kn} {b : List UInt8} (h : DecOk v D g ks b) : b.length ≤ 71400 := by
  have h1 := journal_le (ks.map Kn.bytes) [] (ks.map Kn.bytes).length
  rw [List.take_length, sum_bytes, List.length_map, ← h.jour] at h1
  have := h.lines
  have := h.most
  simp only [List.length_nil] at h1
  omega
/-- What keeps leaves. -/
def KeepSays (x : Nat) (v : DecV) (k : Kn) (F : Asn) (w0 : World) (e : Ending) (w' : World) : Prop :=
  e = .returned (.int .i64 0) ∧ ∃ (D : DiskSt) (g j : Nat) (ks : List Kn) (b : List UInt8) (nm : ByteArray) (n : Nat), DecOk { v with pj := some j, name := nm, lines := n, kn := k } D g ks b ∧
    Mod w' w0 (decB x { v with pj := some j, name := nm, lines := n, kn := k } * (diskA v.pd D * (jourA j v.pd nm b.length * F)))
theorem keep_other {x : Nat} {v : DecV} {D : DiskSt} {g : Nat} {ks : List Kn} {b : List UInt8} {k : Kn} {nm : ByteArray} {g2 j2 : Nat} {w w0 : World} {X F : Asn} (ok : DecOk v D g ks b) (hg : KnOk k ∧ KnMay k) (hne : v.name ≠ nm) (hnm : nm = nd0 ∨ nm = nd1)
    (m : Mod w w0 (decB x { ({ v with kn := k } : DecV) with pj := some j2, name := nm, lines := 1 } * (diskA v.pd (if v.name = nm then stage D nm g2 (writ 0 true k.bytes) 2 else
      { stage D nm g2 (writ 0 true k.bytes) 2 with now := mdel (mput D.now nm g2) v.name, sure := mdel (mput D.now nm g2) v.name }) * (jourA j2 v.pd nm (writ 0 true k.bytes).length * (X * F))))) : KeepSays x v k F w0 (.returned (.int .i64 0)) w := by
  rw [if_neg hne] at m
  have hjr : writ 0 true k.bytes = journal [] ([k].map Kn.bytes) := by
    have hj0 : journal [] [] = [] := rfl
    rw [List.map_cons, List.map_nil, ← List.nil_append [k.bytes], journal_snoc, hj0, List.nil_append, List.length_nil]
  generalize writ 0 true k.bytes = bb at *
  refine ⟨rfl, _, g2, j2, [k], bb, nm, 1, ?_, Mod.drop (A := X) (m := Mod.to (m := m) (by unfold decB; ac_rfl))⟩
  have hmd : mdel (mput D.now nm g2) v.name = [(nm, g2)] := by rw [ok.now]; simp [mput, mdel, hne, Ne.symm hne]
  exact ⟨ok.size, hmd, hmd, by simp [stage, withFile, fget], hjr, rfl, (by show 1 ≤ 200; decide), rfl, hnm, fun k2 h2 => by rw [List.mem_singleton.1 h2]; exact hg⟩
set_option maxRecDepth 4000 in
set_option maxHeartbeats 4000000 in
theorem keeps_spec (x j : Nat) (v : DecV) (D : DiskSt) (g : Nat) (ks : List Kn) (b : List UInt8) (k : Kn) (hgd : KnOk k ∧ KnMay k) (w w0 : World) (F : Asn) (hj : v.pj = some j) (ok : DecOk v D g ks b)
    (m : Mod w w0 (decB x v * (diskA v.pd D * (jourA j v.pd v.name b.length * F)))) : Calls Tryz.prog 126 #[ptr x, .agg k.cells] w (KeepSays x v k F w0) := by
  have hk := hgd.1
  have Hgd := Lib.hid hgd
  clear hgd
  have Hok := Lib.hid ok
  have hmost := ok.most
  clear ok
  by_cases hl : v.lines < 200
  · have hli : (v.lines : Int) < 200 := by omega
    go_enter Tryz.func126, Tryz.ntmps126
    go_wp2_with first | (refine wpList_load_kn rfl rfl rfl ?_) | (refine wpList_store_kn0 rfl rfl rfl rfl rfl ?_; intro w1 m1) | (refine wpList_store_kn rfl rfl rfl rfl ?_; intro w2 m2)
    simp only [emp_sep] at m2
    have m3 : Mod w2.drew w0 (diskA v.pd D * (jourA j v.pd v.name b.length * (decB x { v with kn := k } * (blk w.heap.size (.cells k.cells 171 (0, 0)) * (blk (w.heap.size + 1) (.cells v.kn.cells 171 (0, 0)) * F))))) := Mod.drew (m := Mod.to (m := m2) (by ac_rfl))
    obtain ⟨SS, hSS⟩ : ∃ SS, SS = decB x { v with kn := k } * blk w.heap.size (.cells k.cells 171 (0, 0)) := ⟨_, rfl⟩
    have hx : Has SS x (.cells ({ v with kn := k } : DecV).cells 175 (0, 0)) := by rw [hSS]; infer_instance
    have hkk : HasKn SS w.heap.size 0 k := by rw [hSS]; infer_instance
    have hpj : ({ v with kn := k } : DecV).cells[1]? = some (.pointer (some ⟨j, 0, none⟩)) := by rw [DecV.at1]; simp only [hj]; rfl
    have HSS := Lib.hid hSS
    clear hSS m2 m
    refine wp_region_held_drew (S := fun u => Mod u w0 SS) (by kernel_rfl) (by rw [HSS.out]; exact held_of m3) (fun hHeld => ?_)
    refine' wpAnyH_take (i := 0) (v := ?_) rfl (by kernel_rfl) (by kernel_rfl) (by kernel_rfl) (fun _ _ _ h => h) (Or.inl ⟨by rfl, ?_⟩) (by assumption) ?_
    rotate_left
    · intro u hSw
      have hSw2 : Mod u w0 SS := hSw
      go_simp
      try with_reducible rfl
    try simp only [Act.put, List.setIfInBounds_toArray]
    refine' wpAnyH_take (i := 1) (v := ?_) rfl (by kernel_rfl) (by kernel_rfl) (by kernel_rfl) (fun _ _ _ h => h) (Or.inl ⟨by rfl, ?_⟩) (by assumption) ?_
    rotate_left
    · intro u hSw
      have hSw2 : Mod u w0 SS := hSw
      go_simp
      try with_reducible rfl
    try simp only [Act.put]
    refine' wpAnyH_take (i := 2) (v := ?_) rfl (by kernel_rfl) (by kernel_rfl) (by kernel_rfl) (fun _ _ _ h => h) (Or.inl ⟨by rfl, ?_⟩) (by assumption) ?_
    rotate_left
    · intro u hSw
      have hSw2 : Mod u w0 SS := hSw
      go_simp
      try with_reducible rfl
    try simp only [Act.put]
    refine' wpAnyH_take (i := 3) (v := ?_) rfl (by kernel_rfl) (by kernel_rfl) (by kernel_rfl) (fun _ _ _ h => h) (Or.inl ⟨by rfl, ?_⟩) (by assumption) ?_
    rotate_left
    · intro u hSw
      have hSw2 : Mod u w0 SS := hSw
      go_simp
      try with_reducible rfl
    try simp only [Act.put]
    refine' wpAnyH_take (i := 4) rfl (by kernel_rfl) (by kernel_rfl) (by kernel_rfl) (fun _ _ _ h => h) (yields_load_kn hkk (by rfl) rfl rfl) (by assumption) ?_
    try simp only [Act.put]
    refine wpAnyH_ready (rs := [5]) (by kernel_rfl) (by simp) ?_
    refine AllReadyH.cons rfl (fun K hK => ?_) AllReadyH.nil
    go_simp
    refine (kbytes_spec k hk _ w0 _ m3).mono ?_
    rintro e w4 ⟨B, c, rfl, m4⟩
    go_wp2_with fail
    refine hK.out _ _ (by rw [HSS.out]; exact held_of (Mod.drop (m := m4))) (fun hHeld2 => ?_)
    clear hK K hHeld m3
    try simp only [Act.put, List.setIfInBounds_toArray, List.set_cons_zero, List.set_cons_succ]
    refine wpAnyH_ready (rs := [6]) (by kernel_rfl) (by simp) ?_
    refine AllReadyH.cons rfl (fun K hK => ?_) AllReadyH.nil
    go_simp
    have ok := Hok.out
    have hle := row_le (m := m4)
    have hbl := Kn.bytes_length k
    have hsmall := ok.small
    have hwl := writ_le b.length true k.bytes
    have m5 : Mod w4 w0 (diskA v.pd D * (jourA j v.pd v.name b.length * (rowA 5 1 (.slice B 168 c) 168 (u8s k.bytes) * (decB x { v with kn := k } * (blk w.heap.size (.cells k.cells 171 (0, 0)) * (blk (w.heap.size + 1) (.cells v.kn.cells 171 (0, 0)) * F)))))) := Mod.to (m := m4) (by ac_rfl)
    have hA := add_ok j v.pd D v.name w4 w0 _ B c k.bytes g ⟨b, b.length⟩ ok.nameSize ok.okName (by rw [ok.now]; exact mget_one _ _) ok.file m5 (by rw [hbl]; infer_instance) (by omega) (by omega) (by rw [ok.left]; show _ ≤ 100000 - b.length; simp only; omega) (by simp only; omega)
    rw [hbl] at hA
    refine hA.mono ?_
    rintro e w6 ⟨rfl, m6⟩
    go_wp2_with fail
    have m7 : Mod w6 w0 (diskA v.pd { D with files := fset D.files g ⟨b ++ writ b.length true k.bytes, b.length⟩ } * (jourA j v.pd v.name (b ++ writ b.length true k.bytes).length * (decB x { v with kn := k } * (blk w.heap.size (.cells k.cells 171 (0, 0)) * (blk (w.heap.size + 1) (.cells v.kn.cells 171 (0, 0)) * F))))) :=
      Mod.drop (A := rowA 5 1 (.slice B 168 c) 168 (u8s k.bytes)) (m := Mod.to (m := m6) (by ac_rfl))
    refine hK.out _ _ (by rw [HSS.out]; exact held_of m7) (fun hHeld3 => ?_)
    clear hK K hHeld2 m4 m5 m6 hA
    try simp only [Act.put, List.setIfInBounds_toArray, List.set_cons_zero, List.set_cons_succ]
    refine' wpAnyH_take (i := 7) (v := ?_) rfl (by kernel_rfl) (by kernel_rfl) (by kernel_rfl) (fun _ _ _ h => h) (Or.inl ⟨by rfl, ?_⟩) hHeld3 ?_
    rotate_left
    · intro u hSw
      have hSw2 : Mod u w0 SS := hSw
      go_simp
      try with_reducible rfl
    try simp only [Act.put, List.setIfInBounds_toArray]
    refine wpAnyH_done (by kernel_rfl) ?_ _
    clear hHeld3
    go_wp2_with fail
    refine (jsync_some j v.pd { D with files := fset D.files g ⟨b ++ writ b.length true k.bytes, b.length⟩ } v.name w6 w0 _ _ m7 ok.nameSize ok.okName g ⟨b ++ writ b.length true k.bytes, b.length⟩ (by show mget D.now v.name = _; rw [ok.now]; exact mget_one _ _) (fget_fset_same _ _ _ _ ok.file)).mono ?_
    rintro e w8 ⟨rfl, m8⟩
    clear m7
    obtain ⟨b2, hb2⟩ : ∃ b2, b ++ writ b.length true k.bytes = b2 := ⟨_, rfl⟩
    have ok2 : ∀ D2 : DiskSt, D2 = { D with files := fset (fset D.files g ⟨b2, b.length⟩) g ⟨b2, b2.length⟩ } → DecOk { v with pj := some j, name := v.name, lines := v.lines + 1, kn := k } D2 g (ks ++ [k]) b2 := by
      rintro D2 rfl
      exact ⟨ok.size, ok.now, ok.sure, fget_fset_same _ _ _ _ (fget_fset_same _ _ _ _ ok.file), by rw [List.map_append, List.map_cons, List.map_nil, journal_snoc, ← ok.jour, hb2], by rw [List.length_append, ok.lines]; rfl, hl, by simp, ok.name, fun k2 h2 => by rcases List.mem_append.1 h2 with h3 | h3; exact ok.good k2 h3; rw [List.mem_singleton.1 h3]; exact Hgd.out⟩
    rw [hb2] at m8
    dsimp only at m8
    have Hok2 := Lib.hid (ok2 _ rfl)
    clear ok2 hb2 ok hle hbl hsmall hwl Hok
    generalize ({ D with files := fset (fset D.files g ⟨b2, b.length⟩) g ⟨b2, b2.length⟩ } : DiskSt) = D2 at *
    go_wp2_with fail
    go_ret
    have m9 : Mod (w8.setCell ⟨x, 3, none⟩ (.int .i64 ((v.lines : Int) + 1))) w0 _ := inferInstance
    simp only [emp_sep] at m9
    refine ⟨rfl, D2, g, j, ks ++ [k], b2, v.name, v.lines + 1, Hok2.out, ?_⟩
    have e1 : ({ v with kn := k } : DecV).cells.setIfInBounds 3 (.int .i64 ((v.lines : Int) + 1)) = ({ v with pj := some j, name := v.name, lines := v.lines + 1, kn := k } : DecV).cells := by
      unfold DecV.cells
      simp only [List.setIfInBounds_toArray, List.set_cons_zero, List.set_cons_succ, hj]
      rfl
    rw [e1] at m9
    exact Mod.drop (A := blk w.heap.size (.cells k.cells 171 (0, 0)) * blk (w.heap.size + 1) (.cells v.kn.cells 171 (0, 0))) (m := Mod.to (m := m9) (by unfold decB; ac_rfl))
  · have hli : ¬ ((v.lines : Int) < 200) := by omega
    have ok := Hok.out
    obtain ⟨nm, hnm⟩ : ∃ nm, otherName v.name = nm := ⟨_, rfl⟩
    have hne : v.name ≠ nm := by
      rw [← hnm]; rcases ok.name with e | e <;> rw [e] <;> decide
    have hnm2 : nm = nd0 ∨ nm = nd1 := by
      rw [← hnm]; unfold otherName; split <;> simp
    have hokn : nameOk nm = true := by rcases hnm2 with e | e <;> rw [e] <;> first | exact ok_d0 | exact ok_d1
    have hszn : nm.size ≤ 9223372036854775807 := by rcases hnm2 with e | e <;> rw [e] <;> decide
    have hgn : mget D.now nm = none := by rw [ok.now]; simp [mget, hne]
    have hleft : 400 ≤ leftOf D := by rw [ok.left]; have := ok.small; omega
    have HB := Lib.hid (fun (u : World) (G : Asn) (mu : Mod u w0 (decB x { v with kn := k } * (diskA v.pd D * G))) => begin_spec x v.pd { v with kn := k } D nm u w0 G mu rfl hk hszn hokn hgn (by rw [ok.now]; simp) hleft (.inr ⟨ok.okName, ok.nameSize, g, by rw [ok.now]; exact mget_one _ _⟩))
    clear hokn hszn hleft hgn hnm
    clear ok
    rcases Hok.out.name with hv | hv
    · have hcond : (v.name.toList == [100, 45, 48]) = true := by rw [hv, ByteArray.toList_eq]; decide
      have Hnm : Hid (nm = nd1) := by show _ = _; rcases hnm2 with e | e; · exact absurd (hv.trans e.symm) hne
                                      · exact e
      obtain rfl := Hnm.out
      clear hv
      go_enter Tryz.func126, Tryz.ntmps126
      go_wp2_with first | (refine wpList_load_kn rfl rfl rfl ?_) | (refine wpList_store_kn0 rfl rfl rfl rfl rfl ?_; intro w1 m1) | (refine wpList_store_kn rfl rfl rfl rfl ?_; intro w2 m2)
      simp only [emp_sep] at m2
      refine (HB.out w2 ((jourA j v.pd v.name b.length * (blk w.heap.size (.cells k.cells 171 (0, 0)) * blk (w.heap.size + 1) (.cells v.kn.cells 171 (0, 0)))) * F) (Mod.to (m := m2) (by unfold decB; ac_rfl))).mono ?_
      rintro e w3 ⟨rfl, g2, j2, _, m3⟩
      clear m1 m2 m HB
      go_wp2_with fail
      go_ret
      exact keep_other Hok.out Hgd.out hne (.inr rfl) m3
    · have hcond : (v.name.toList == [100, 45, 48]) = false := by rw [hv, ByteArray.toList_eq]; decide
      have Hnm : Hid (nm = nd0) := by show _ = _; rcases hnm2 with e | e; · exact e
                                      · exact absurd (hv.trans e.symm) hne
      obtain rfl := Hnm.out
      clear hv
      go_enter Tryz.func126, Tryz.ntmps126
      go_wp2_with first | (refine wpList_load_kn rfl rfl rfl ?_) | (refine wpList_store_kn0 rfl rfl rfl rfl rfl ?_; intro w1 m1) | (refine wpList_store_kn rfl rfl rfl rfl ?_; intro w2 m2)
      simp only [emp_sep] at m2
      refine (HB.out w2 ((jourA j v.pd v.name b.length * (blk w.heap.size (.cells k.cells 171 (0, 0)) * blk (w.heap.size + 1) (.cells v.kn.cells 171 (0, 0)))) * F) (Mod.to (m := m2) (by unfold decB; ac_rfl))).mono ?_
      rintro e w3 ⟨rfl, g2, j2, _, m3⟩
      clear m1 m2 m HB
      go_wp2_with fail
      go_ret
      exact keep_other Hok.out Hgd.out hne (.inl rfl) m3
end Go.Proofs.YtkdiejbpleojnaaGreatDoor
namespace Go.Proofs.YtkdiejbpleojnaaGreatDoor
open Go.RowKit Go.Sl
attribute [local go_sem] cell_of frozen_of zero_names DecV.at0 DecV.at1 DecV.at2 DecV.at3 DecV.at4 DecV.at5 DecV.at6 DecV.at7 DecV.at8 DecV.at9 DecV.at10 DecV.at11 DecV.at12 DecV.at13 DecV.at14 DecV.at15 DecV.at16 DecV.at17 DecV.at18 DecV.at19 DecV.at20 DecV.at21 DecV.at22 DecV.at23 DecV.at24 DecV.at25 DecV.at26 DecV.at27 DecV.at28 DecV.at29 DecV.at30 DecV.at31
theorem ok_x : nameOk ⟨#[120]⟩ = true := by rw [nameOk_eq]; decide
/-- The decider that is made. -/
def blankV (p : Nat) : DecV := ⟨p, none, nd0, 0, Kn.zero, false, none, 0, 0, none, none, none, none, none⟩
def firstV (p : Nat) (j : Nat) : DecV := ⟨p, some j, nd0, 1, Kn.zero, false, none, 0, 0, none, none, none, none, none⟩
theorem zero_chain : ∀ x ∈ Kn.zero.chain, x = 0 := by decide
theorem zero_may : KnMay Kn.zero := by
  refine ⟨by decide, fun i h => ?_, fun i h hp => ?_, by decide, by decide⟩
  · rw [zero_chain _ (List.getElem_mem h)]
    show 0 < 0 ↔ i < 0
    omega
  · rw [zero_chain _ (List.getElem_mem h)] at hp
    exact absurd hp (by decide)
theorem zero_ok : KnOk Kn.zero := ⟨by decide, by decide, by decide, by decide, by decide, by decide, rfl, rfl, rfl, by decide, by decide, by decide, by decide, by decide⟩
def NewDSays (p : Nat) (F : Asn) (w0 : World) (e : Ending) (w' : World) : Prop :=
  ∃ x j g D b, e = .returned (.tuple #[ptr x, .int .i64 0]) ∧ DecOk (firstV p j) D g [Kn.zero] b ∧ Mod w' w0 (decB x (firstV p j) * (diskA p D * (jourA j p nd0 b.length * F)))
set_option maxRecDepth 4000 in
set_option maxHeartbeats 4000000 in
theorem new_empty_spec (p : Nat) (w w0 : World) (F : Asn) (m : Mod w w0 (diskA p (newDisk 100000) * F)) : Calls Tryz.prog 54 #[ptr p] w (NewDSays p F w0) := by
  go_enter Tryz.func54, Tryz.ntmps54
  go_wp2_with fail
  refine (size_none p (newDisk 100000) ⟨#[120]⟩ w w0 _ _ m inferInstance (by decide) ok_x rfl).mono ?_
  rintro e w1 ⟨rfl, m1⟩
  go_wp2_with fail
  have m2 : Mod (w1.alloc (.cells (blankV p).cells 175)) w0 (decB w1.heap.size (blankV p) * (diskA p (newDisk 100000) * F)) := inferInstance
  refine (list_spec p (newDisk 100000) (w1.alloc (.cells (blankV p).cells 175)) w0 _ _ m2 inferInstance).mono ?_
  rintro e w3 ⟨B, c, rfl, m3⟩
  rw [show (listOf (newDisk 100000)).length = 0 by simp [length_listOf, newDisk]]
  have m4 : Mod w3 w0 (decB w1.heap.size (blankV p) * (diskA p (newDisk 100000) * F)) := Mod.drop (m := m3)
  clear m m1 m2 m3
  go_wp2_with fail
  refine (begin_spec w1.heap.size p (blankV p) (newDisk 100000) nd0 w3 w0 F m4 rfl zero_ok (by decide) ok_d0 rfl (by decide) (by decide) (.inl rfl)).mono ?_
  rintro e w5 ⟨rfl, g, j, _, m5⟩
  rw [if_pos (show (blankV p).name = nd0 from rfl)] at m5
  have hjr : writ 0 true (blankV p).kn.bytes = journal [] ([Kn.zero].map Kn.bytes) := by
    have hj0 : journal [] [] = [] := rfl
    rw [List.map_cons, List.map_nil, ← List.nil_append [Kn.zero.bytes], journal_snoc, hj0, List.nil_append, List.length_nil]; rfl
  generalize writ 0 true (blankV p).kn.bytes = bb at *
  have hok : DecOk (firstV p j) (stage (newDisk 100000) nd0 g bb 2) g [Kn.zero] bb := ⟨rfl, rfl, rfl, by simp [stage, withFile, fget], hjr, rfl, (by show 1 ≤ 200; decide), rfl, .inl rfl, fun k2 h2 => by rw [List.mem_singleton.1 h2]; exact ⟨zero_ok, zero_may⟩⟩
  have m6 : Mod w5 w0 (decB w1.heap.size (firstV p j) * (diskA p (stage (newDisk 100000) nd0 g bb 2) * (jourA j p nd0 bb.length * F))) := m5
  have Hok := Lib.hid hok
  clear m4 m5 hok hjr
  generalize stage (newDisk 100000) nd0 g bb 2 = D at *
  go_wp2_with fail
  go_ret2
  exact ⟨w1.heap.size, j, g, D, bb, rfl, Hok.out, m6⟩
end Go.Proofs.YtkdiejbpleojnaaGreatDoor
