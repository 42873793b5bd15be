/- The sum over bytes that journals and frames use, in plain words, and that it tells if up to 32 bits in a row are turned: definitions and plain lemmas.
Journals in plain lists: how records are written, how bytes are read, and that what was written is read back, whole and cut: definitions and plain lemmas.
Journals in plain lists, more: how long a record is when it is written, what a turned part reads as, and the plain laws that the statements end in: definitions and plain lemmas. -/
import Derived.WalkKit
namespace Go.Sl
/-- one bit further -/
def crcBit (n : BitVec 32) : BitVec 32 := (n >>> 1) ^^^ (if n.getLsbD 0 then 0x82f63b78#32 else 0#32)
def crcBits : Nat → BitVec 32 → BitVec 32
  | 0, n => n
  | k + 1, n => crcBits k (crcBit n)
def crcTab (i : Nat) : BitVec 32 := crcBits 8 (BitVec.ofNat 32 i)
/-- one byte further -/
def crcUpd (n : BitVec 32) (c : UInt8) : BitVec 32 := (n >>> 8) ^^^ crcTab (n.toNat % 256 ^^^ c.toNat)
def crcOn (s : BitVec 32) (b : List UInt8) : BitVec 32 := ~~~ (b.foldl crcUpd (~~~ s))
/-- a part's sum -/
def crcOf (kind : UInt8) (b : List UInt8) : BitVec 32 := crcOn (crcOn 0#32 [kind]) b
theorem crcOf_eq (kind : UInt8) (b : List UInt8) : crcOf kind b = ~~~ ((kind :: b).foldl crcUpd (~~~ 0#32)) := by
  simp [crcOf, crcOn]
theorem crcBit_xor (a b : BitVec 32) : crcBit (a ^^^ b) = crcBit a ^^^ crcBit b := by
  unfold crcBit
  rw [BitVec.getLsbD_xor, BitVec.ushiftRight_xor_distrib]
  generalize a >>> 1 = x
  generalize b >>> 1 = y
  generalize 0x82f63b78#32 = d
  have h1 : x ^^^ y ^^^ d = x ^^^ d ^^^ y := by rw [BitVec.xor_assoc, BitVec.xor_comm y, ← BitVec.xor_assoc]
  have h2 : x ^^^ y = x ^^^ d ^^^ (y ^^^ d) := by
    rw [BitVec.xor_comm y d, BitVec.xor_assoc, ← BitVec.xor_assoc d d, BitVec.xor_self, BitVec.zero_xor]
  cases a.getLsbD 0 <;> cases b.getLsbD 0 <;> simp only [Bool.xor_false, Bool.xor_true, Bool.not_false, Bool.not_true, if_true, if_false, Bool.false_eq_true, BitVec.xor_zero]
  · rw [BitVec.xor_assoc]
  · exact h1
  · exact h2
theorem crcBits_xor : ∀ (k : Nat) (a b : BitVec 32), crcBits k (a ^^^ b) = crcBits k a ^^^ crcBits k b
  | 0, _, _ => rfl
  | k + 1, a, b => by simp only [crcBits]; rw [crcBit_xor, crcBits_xor k]
theorem crcBit_even (n : BitVec 32) (h : n.getLsbD 0 = false) : crcBit n = n >>> 1 := by
  unfold crcBit; rw [h]; simp
theorem crcBits_low : ∀ (k : Nat) (n : BitVec 32), (∀ i, i < k → n.getLsbD i = false) → crcBits k n = n >>> k
  | 0, n, _ => by simp [crcBits]
  | k + 1, n, h => by
    simp only [crcBits]
    rw [crcBit_even n (h 0 (by omega)), crcBits_low k (n >>> 1) (fun i hi => by rw [BitVec.getLsbD_ushiftRight]; exact h (1 + i) (by omega)), ← BitVec.shiftRight_add, Nat.add_comm]
theorem crcBit_zero {n : BitVec 32} (h : crcBit n = 0#32) : n = 0#32 := by
  have h31 := congrArg (fun x : BitVec 32 => x.getLsbD 31) h
  simp only [crcBit, BitVec.getLsbD_xor, BitVec.getLsbD_ushiftRight, BitVec.getLsbD_zero] at h31
  rw [BitVec.getLsbD_of_ge n (1 + 31) (by omega)] at h31
  have h0 : n.getLsbD 0 = false := by
    cases h0 : n.getLsbD 0 with
    | false => rfl
    | true => rw [h0] at h31; simp at h31
  rw [crcBit_even n h0] at h
  apply BitVec.eq_of_getLsbD_eq
  intro i hi
  cases i with
  | zero => simpa using h0
  | succ i =>
    have := congrArg (fun x : BitVec 32 => x.getLsbD i) h
    simp only [BitVec.getLsbD_ushiftRight, BitVec.getLsbD_zero] at this
    rw [Nat.add_comm i 1, this]; simp
theorem crcBits_zero : ∀ (k : Nat) {n : BitVec 32}, crcBits k n = 0#32 → n = 0#32
  | 0, _, h => h
  | k + 1, _, h => crcBit_zero (crcBits_zero k h)
theorem xor_eq_zero {a b : BitVec 32} (h : a ^^^ b = 0#32) : a = b := by
  have : (a ^^^ b) ^^^ b = b := by rw [h, BitVec.zero_xor]
  rwa [BitVec.xor_assoc, BitVec.xor_self, BitVec.xor_zero] at this
theorem crcBits_inj (k : Nat) {a b : BitVec 32} (h : crcBits k a = crcBits k b) : a = b := by
  refine xor_eq_zero (crcBits_zero k ?_)
  rw [crcBits_xor, h, BitVec.xor_self]
/-- A byte as 32 bits. -/
def wide (c : UInt8) : BitVec 32 := BitVec.ofNat 32 c.toNat
theorem wide_lsb (c : UInt8) (i : Nat) : (wide c).getLsbD i = (decide (i < 8) && c.toNat.testBit i) := by
  unfold wide
  rw [BitVec.getLsbD_ofNat]
  by_cases h : i < 8
  · simp [h, show i < 32 by omega]
  · have hc : c.toNat.testBit i = false := Nat.testBit_lt_two_pow (Nat.lt_of_lt_of_le c.toNat_lt (Nat.pow_le_pow_right (by omega) (by omega : 8 ≤ i)))
    simp [h, hc]
theorem crcUpd_eq (n : BitVec 32) (c : UInt8) : crcUpd n c = crcBits 8 (n ^^^ wide c) := by
  have e : n ^^^ wide c = (n >>> 8) <<< 8 ^^^ BitVec.ofNat 32 (n.toNat % 256 ^^^ c.toNat) := by
    apply BitVec.eq_of_getLsbD_eq
    intro i hi
    rw [BitVec.getLsbD_xor, BitVec.getLsbD_xor, BitVec.getLsbD_shiftLeft, BitVec.getLsbD_ushiftRight, BitVec.getLsbD_ofNat, wide_lsb, Nat.testBit_xor, show (256 : Nat) = 2 ^ 8 by decide, Nat.testBit_mod_two_pow]
    by_cases h : i < 8
    · simp [h, hi, BitVec.getLsbD]
    · have hc : c.toNat.testBit i = false := Nat.testBit_lt_two_pow (Nat.lt_of_lt_of_le c.toNat_lt (Nat.pow_le_pow_right (by omega) (by omega : 8 ≤ i)))
      simp [h, hi, hc, show 8 + (i - 8) = i by omega]
  rw [e, crcBits_xor, crcBits_low 8 _ (fun i hi => by rw [BitVec.getLsbD_shiftLeft]; simp [hi])]
  unfold crcUpd crcTab
  congr 1
  apply BitVec.eq_of_getLsbD_eq
  intro i hi
  rw [BitVec.getLsbD_ushiftRight, BitVec.getLsbD_ushiftRight, BitVec.getLsbD_shiftLeft, BitVec.getLsbD_ushiftRight]
  by_cases h : 8 + i < 32
  · simp [h, show ¬ 8 + i < 8 by omega]
  · rw [BitVec.getLsbD_of_ge n (8 + i) (by omega)]; simp [h]
theorem crcUpd_inj {n m : BitVec 32} {c : UInt8} (h : crcUpd n c = crcUpd m c) : n = m := by
  rw [crcUpd_eq, crcUpd_eq] at h
  have := crcBits_inj 8 h
  have h2 := congrArg (fun x => x ^^^ wide c) this
  simp only [BitVec.xor_assoc, BitVec.xor_self, BitVec.xor_zero] at h2
  exact h2
theorem crcFold_inj : ∀ (b : List UInt8) {n m : BitVec 32}, b.foldl crcUpd n = b.foldl crcUpd m → n = m
  | [], _, _, h => h
  | _ :: b, _, _, h => crcUpd_inj (crcFold_inj b h)
/-- What two runs differ by. -/
theorem crcUpd_diff (n d : BitVec 32) (c t : UInt8) : crcUpd (n ^^^ d) (c ^^^ t) = crcUpd n c ^^^ crcBits 8 (d ^^^ wide t) := by
  rw [crcUpd_eq, crcUpd_eq, ← crcBits_xor]
  congr 1
  have : wide (c ^^^ t) = wide c ^^^ wide t := by
    apply BitVec.eq_of_getLsbD_eq
    intro i hi
    rw [BitVec.getLsbD_xor, wide_lsb, wide_lsb, wide_lsb, UInt8.toNat_xor, Nat.testBit_xor]
    by_cases h : i < 8 <;> simp [h]
  rw [this, BitVec.xor_assoc, BitVec.xor_assoc, ← BitVec.xor_assoc d, BitVec.xor_comm d (wide c), BitVec.xor_assoc]
theorem shl8_low (x : BitVec 32) (i : Nat) (hi : i < 8) : (x <<< 8).getLsbD i = false := by
  rw [BitVec.getLsbD_shiftLeft]; simp [hi]
theorem crcBits8_shl (x : BitVec 32) (h : ∀ i, 24 ≤ i → x.getLsbD i = false) : crcBits 8 (x <<< 8) = x := by
  rw [crcBits_low 8 _ (fun i hi => shl8_low x i hi)]
  apply BitVec.eq_of_getLsbD_eq
  intro i hi
  rw [BitVec.getLsbD_ushiftRight, BitVec.getLsbD_shiftLeft]
  by_cases h2 : 8 + i < 32
  · simp [h2, show ¬ 8 + i < 8 by omega]
  · rw [h i (by omega)]; simp [h2]
theorem wide_zero {c : UInt8} (h : wide c = 0#32) : c = 0 := by
  have h1 := congrArg BitVec.toNat h
  unfold wide at h1
  rw [BitVec.toNat_ofNat] at h1
  have := c.toNat_lt
  have h2 : c.toNat = 0 := by simp at h1; omega
  exact UInt8.toNat_inj.1 (by simpa using h2)
/-- Four bytes in a row turned, not all by nothing: the runs part. -/
theorem crcFour (n : BitVec 32) (c0 c1 c2 c3 t0 t1 t2 t3 : UInt8) (h : [c0 ^^^ t0, c1 ^^^ t1, c2 ^^^ t2, c3 ^^^ t3].foldl crcUpd n = [c0, c1, c2, c3].foldl crcUpd n) : t0 = 0 ∧ t1 = 0 ∧ t2 = 0 ∧ t3 = 0 := by
  simp only [List.foldl_cons, List.foldl_nil] at h
  have hn : n = n ^^^ 0#32 := by rw [BitVec.xor_zero]
  have h0 : crcUpd n (c0 ^^^ t0) = crcUpd n c0 ^^^ crcBits 8 (0#32 ^^^ wide t0) := by
    conv => lhs; rw [hn]
    exact crcUpd_diff n 0#32 c0 t0
  rw [h0, crcUpd_diff, crcUpd_diff, crcUpd_diff, BitVec.zero_xor] at h
  have hd : crcBits 8 (crcBits 8 (crcBits 8 (crcBits 8 (wide t0) ^^^ wide t1) ^^^ wide t2) ^^^ wide t3) = 0#32 := by
    have h2 := congrArg (fun x => crcUpd (crcUpd (crcUpd (crcUpd n c0) c1) c2) c3 ^^^ x) h
    simp only [← BitVec.xor_assoc, BitVec.xor_self, BitVec.zero_xor] at h2
    exact h2
  have d3 := xor_eq_zero (crcBits_zero 8 hd)
  have big : ∀ (t : UInt8) (i : Nat), 8 ≤ i → (wide t).getLsbD i = false := fun t i hi => by rw [wide_lsb]; simp [show ¬ i < 8 by omega]
  have e3 : crcBits 8 (wide t3 <<< 8) = wide t3 := crcBits8_shl _ fun i hi => big t3 i (by omega)
  rw [← e3] at d3
  have d2 := crcBits_inj 8 d3
  have d2' : crcBits 8 (crcBits 8 (wide t0) ^^^ wide t1) = wide t3 <<< 8 ^^^ wide t2 := by
    rw [← d2, BitVec.xor_assoc, BitVec.xor_self, BitVec.xor_zero]
  have hx2 : ∀ i, 16 ≤ i → (wide t3 <<< 8 ^^^ wide t2).getLsbD i = false := fun i hi => by
    rw [BitVec.getLsbD_xor, BitVec.getLsbD_shiftLeft, big t2 i (by omega)]
    simp [show ¬ i < 8 by omega, big t3 (i - 8) (by omega)]
  rw [← crcBits8_shl (wide t3 <<< 8 ^^^ wide t2) fun i hi => hx2 i (by omega)] at d2'
  have d1 := crcBits_inj 8 d2'
  generalize hy2 : wide t3 <<< 8 ^^^ wide t2 = y2 at *
  have d1' : crcBits 8 (wide t0) = y2 <<< 8 ^^^ wide t1 := by rw [← d1, BitVec.xor_assoc, BitVec.xor_self, BitVec.xor_zero]
  have hx1 : ∀ i, 24 ≤ i → (y2 <<< 8 ^^^ wide t1).getLsbD i = false := fun i hi => by
    rw [BitVec.getLsbD_xor, BitVec.getLsbD_shiftLeft, big t1 i (by omega)]
    simp [show ¬ i < 8 by omega, hx2 (i - 8) (by omega)]
  rw [← crcBits8_shl (y2 <<< 8 ^^^ wide t1) hx1] at d1'
  have d0 := crcBits_inj 8 d1'
  generalize hy1 : y2 <<< 8 ^^^ wide t1 = y1 at *
  -- a byte whose low bits are nothing
  have z0 : wide t0 = 0#32 := by
    apply BitVec.eq_of_getLsbD_eq
    intro i hi
    by_cases h8 : i < 8
    · rw [d0, shl8_low y1 i h8]; simp
    · rw [big t0 i (by omega)]; simp
  have up : ∀ (x : BitVec 32), x <<< 8 = 0#32 → (∀ i, 24 ≤ i → x.getLsbD i = false) → x = 0#32 := fun x hx hb => by
    rw [← crcBits8_shl x hb, hx]; decide
  have z1 : y1 = 0#32 := up y1 (by rw [← d0, z0]) hx1
  rw [z1] at hy1
  have low : ∀ (y : BitVec 32) (t : UInt8), y <<< 8 ^^^ wide t = 0#32 → wide t = 0#32 ∧ y <<< 8 = 0#32 := fun y t hh => by
    have e := xor_eq_zero hh
    have : wide t = 0#32 := by
      apply BitVec.eq_of_getLsbD_eq
      intro i hi
      by_cases h8 : i < 8
      · rw [← e, shl8_low y i h8]; simp
      · rw [big t i (by omega)]; simp
    exact ⟨this, by rw [e, this]⟩
  obtain ⟨w1, u1⟩ := low y2 t1 hy1
  have z2 : y2 = 0#32 := up y2 u1 fun i hi => hx2 i (by omega)
  rw [z2] at hy2
  obtain ⟨w2, u2⟩ := low (wide t3) t2 hy2
  have w3 : wide t3 = 0#32 := up (wide t3) u2 fun i hi => big t3 i (by omega)
  exact ⟨wide_zero z0, wide_zero w1, wide_zero w2, wide_zero w3⟩
theorem crc_turned (kind : UInt8) (c0 c1 c2 c3 t0 t1 t2 t3 : UInt8) (rest : List UInt8) (h : ¬ (t0 = 0 ∧ t1 = 0 ∧ t2 = 0 ∧ t3 = 0)) : crcOf kind ((c0 ^^^ t0) :: (c1 ^^^ t1) :: (c2 ^^^ t2) :: (c3 ^^^ t3) :: rest) ≠ crcOf kind (c0 :: c1 :: c2 :: c3 :: rest) := by
  intro he
  rw [crcOf_eq, crcOf_eq] at he
  have he := BitVec.not_inj.1 he
  rw [show kind :: (c0 ^^^ t0) :: (c1 ^^^ t1) :: (c2 ^^^ t2) :: (c3 ^^^ t3) :: rest = [kind] ++ ([c0 ^^^ t0, c1 ^^^ t1, c2 ^^^ t2, c3 ^^^ t3] ++ rest) from rfl, show kind :: c0 :: c1 :: c2 :: c3 :: rest = [kind] ++ ([c0, c1, c2, c3] ++ rest) from rfl, List.foldl_append, List.foldl_append, List.foldl_append, List.foldl_append] at he
  exact h (crcFour _ _ _ _ _ _ _ _ _ (crcFold_inj rest he))
end Go.Sl
namespace Go.Sl
def gapOf (p : Nat) : Nat := if 128 - p % 128 ≤ 7 then 128 - p % 128 else 0
theorem gapOf_le (p : Nat) : gapOf p ≤ 7 := by unfold gapOf; split <;> omega
theorem room_pos (p : Nat) : 8 ≤ 128 - (p + gapOf p) % 128 ∧ (p + gapOf p) % 128 < 128 := by unfold gapOf; split <;> omega
theorem gapOf_gap (p : Nat) : gapOf (p + gapOf p) = 0 := by
  have := room_pos p
  generalize p + gapOf p = q at *
  unfold gapOf; rw [if_neg (by omega)]
def zeros (n : Nat) : List UInt8 := List.replicate n 0
/-- a number in four bytes -/
def four (n : Nat) : List UInt8 := [UInt8.ofNat (n / 16777216), UInt8.ofNat (n / 65536), UInt8.ofNat (n / 256), UInt8.ofNat n]
def four4 (a b c d : UInt8) : Nat := a.toNat * 16777216 + b.toNat * 65536 + c.toNat * 256 + d.toNat
theorem four4_four (n : Nat) (h : n < 4294967296) : four4 (UInt8.ofNat (n / 16777216)) (UInt8.ofNat (n / 65536)) (UInt8.ofNat (n / 256)) (UInt8.ofNat n) = n := by
  unfold four4
  simp only [UInt8.toNat_ofNat']
  omega
def headB (kind : UInt8) (p : List UInt8) : List UInt8 := four (crcOf kind p).toNat ++ [UInt8.ofNat (p.length / 256), UInt8.ofNat p.length, kind]
theorem headB_length (kind : UInt8) (p : List UInt8) : (headB kind p).length = 7 := rfl
def partB (kind : UInt8) (p : List UInt8) : List UInt8 := headB kind p ++ p
theorem partB_length (kind : UInt8) (p : List UInt8) : (partB kind p).length = 7 + p.length := by simp [partB, headB_length]
/-- how many bytes of a record go into the part at a place (behind the gap) -/
def fits (p : Nat) (r : List UInt8) : Nat := min r.length (128 - (p + gapOf p) % 128 - 7)
theorem fits_le (p : Nat) (r : List UInt8) : fits p r ≤ r.length := Nat.min_le_left _ _
theorem fits_room (p : Nat) (r : List UInt8) : fits p r ≤ 121 := by have := room_pos p; unfold fits; omega
theorem fits_pos (p : Nat) (r : List UInt8) (h : 0 < r.length) : 0 < fits p r := by have := room_pos p; unfold fits; omega
def kindOf (first whole : Bool) : UInt8 := if whole then (if first then 1 else 4) else (if first then 2 else 3)
/-- a record from a place on: its parts -/
def writ (p : Nat) (first : Bool) (r : List UInt8) : List UInt8 :=
  zeros (gapOf p) ++ (partB (kindOf first (decide (fits p r = r.length))) (r.take (fits p r)) ++
    (if _h : fits p r = r.length then [] else writ (p + gapOf p + 7 + fits p r) false (r.drop (fits p r))))
termination_by r.length
decreasing_by
  have := fits_le p r
  have h0 : 0 < r.length := by
    rcases Nat.eq_zero_or_pos r.length with h0 | h0
    · omega
    · exact h0
  have := fits_pos p r h0
  simp only [List.length_drop]; omega
/-- what a part at a place (behind the gap) reads as: its kind, its bytes, where it ends -/
def partAt (b : List UInt8) (p : Nat) : Option (UInt8 × List UInt8 × Nat) :=
  match b.drop p with
  | a0 :: a1 :: a2 :: a3 :: l1 :: l0 :: kind :: rest =>
    if (128 - (p + 7) % 128 < l1.toNat * 256 + l0.toNat ∧ 0 < l1.toNat * 256 + l0.toNat) ∨ rest.length < l1.toNat * 256 + l0.toNat ∨ (crcOf kind (rest.take (l1.toNat * 256 + l0.toNat))).toNat ≠ four4 a0 a1 a2 a3 then none
    else some (kind, rest.take (l1.toNat * 256 + l0.toNat), p + 7 + (l1.toNat * 256 + l0.toNat))
  | _ => none
theorem partAt_lt {b : List UInt8} {p : Nat} {q : UInt8 × List UInt8 × Nat} (h : partAt b p = some q) : p + 7 ≤ q.2.2 ∧ q.2.2 ≤ b.length := by
  unfold partAt at h
  split at h
  · rename_i a0 a1 a2 a3 l1 l0 kind rest hd
    split at h
    · cases h
    · rename_i hc
      injection h with h
      subst h
      have hl := congrArg List.length hd
      simp only [List.length_drop, List.length_cons] at hl
      simp only [not_or] at hc
      exact ⟨Nat.le_add_right _ _, by show p + 7 + _ ≤ _; omega⟩
  · cases h
def fitKind (begun : Bool) (kind : UInt8) : Bool := if begun then (kind == 3 || kind == 4) else (kind == 1 || kind == 2)
def goesOn (kind : UInt8) : Bool := kind == 2 || kind == 3
/-- the records from a place on, and where the last one ends -/
def readFrom (b : List UInt8) (p : Nat) (begun : Bool) (record : List UInt8) (last : Nat) : List (List UInt8) × Nat :=
  match _h : partAt b (p + gapOf p) with
  | none => ([], last)
  | some q =>
    if fitKind begun q.1 then
      if goesOn q.1 then readFrom b q.2.2 true (record ++ q.2.1) last
      else ((record ++ q.2.1) :: (readFrom b q.2.2 false [] q.2.2).1, (readFrom b q.2.2 false [] q.2.2).2)
    else ([], last)
termination_by b.length - p
decreasing_by
  all_goals (have := partAt_lt _h; omega)
def readAll (b : List UInt8) : List (List UInt8) × Nat := readFrom b 0 false [] 0
theorem readFrom_none {b : List UInt8} {p : Nat} {begun : Bool} {record : List UInt8} {last : Nat} (h : partAt b (p + gapOf p) = none) : readFrom b p begun record last = ([], last) := by
  rw [readFrom]
  split
  · rfl
  · rename_i q hq; rw [h] at hq; cases hq
theorem readFrom_unfit {b : List UInt8} {p : Nat} {begun : Bool} {record : List UInt8} {last : Nat} {q : UInt8 × List UInt8 × Nat} (h : partAt b (p + gapOf p) = some q) (hk : fitKind begun q.1 = false) : readFrom b p begun record last = ([], last) := by
  rw [readFrom]
  split
  · rfl
  · rename_i q' hq; rw [h] at hq; cases hq; rw [hk]; rfl
theorem readFrom_on {b : List UInt8} {p : Nat} {begun : Bool} {record : List UInt8} {last : Nat} {q : UInt8 × List UInt8 × Nat} (h : partAt b (p + gapOf p) = some q) (hk : fitKind begun q.1 = true) (hg : goesOn q.1 = true) :
    readFrom b p begun record last = readFrom b q.2.2 true (record ++ q.2.1) last := by
  rw [readFrom]
  split
  · rename_i hq; rw [h] at hq; cases hq
  · rename_i q' hq; rw [h] at hq; cases hq; rw [hk, hg]; rfl
theorem readFrom_whole {b : List UInt8} {p : Nat} {begun : Bool} {record : List UInt8} {last : Nat} {q : UInt8 × List UInt8 × Nat} (h : partAt b (p + gapOf p) = some q) (hk : fitKind begun q.1 = true) (hg : goesOn q.1 = false) :
    readFrom b p begun record last = ((record ++ q.2.1) :: (readFrom b q.2.2 false [] q.2.2).1, (readFrom b q.2.2 false [] q.2.2).2) := by
  rw [readFrom]
  split
  · rename_i hq; rw [h] at hq; cases hq
  · rename_i q' hq; rw [h] at hq; cases hq; rw [hk, hg]; rfl
/-- A part that was written is read. -/
theorem partAt_part (a c : List UInt8) (kind : UInt8) (p : List UInt8) (h1 : p.length ≤ 121) (h2 : p.length ≤ 128 - (a.length + 7) % 128 ∨ p.length = 0) : partAt (a ++ (partB kind p ++ c)) a.length = some (kind, p, a.length + 7 + p.length) := by
  have hl : (UInt8.ofNat (p.length / 256)).toNat * 256 + (UInt8.ofNat p.length).toNat = p.length := by
    simp only [UInt8.toNat_ofNat']; omega
  have e : (a ++ (partB kind p ++ c)).drop a.length = UInt8.ofNat ((crcOf kind p).toNat / 16777216) :: UInt8.ofNat ((crcOf kind p).toNat / 65536) :: UInt8.ofNat ((crcOf kind p).toNat / 256) :: UInt8.ofNat (crcOf kind p).toNat :: UInt8.ofNat (p.length / 256) :: UInt8.ofNat p.length :: kind :: (p ++ c) := by
    rw [List.drop_left]; simp [partB, headB, four]
  unfold partAt
  rw [e]
  simp only [hl, List.take_left, four4_four _ (crcOf kind p).isLt]
  rw [if_neg]
  simp only [not_or, List.length_append]
  exact ⟨by omega, by omega, by simp⟩
/-- A part that is not there whole is not read. -/
theorem partAt_cut (a t c : List UInt8) (kind : UInt8) (p : List UInt8) (h1 : p.length ≤ 121) (ht : t ++ c = partB kind p) (hc : c ≠ []) : partAt (a ++ t) a.length = none := by
  have hlt : t.length < 7 + p.length := by
    have := congrArg List.length ht
    rw [partB_length, List.length_append] at this
    have : 0 < c.length := List.length_pos_iff.2 hc
    omega
  unfold partAt
  rw [List.drop_left]
  split
  · rename_i a0 a1 a2 a3 l1 l0 k rest
    have e : a0 :: a1 :: a2 :: a3 :: l1 :: l0 :: k :: (rest ++ c) = UInt8.ofNat ((crcOf kind p).toNat / 16777216) :: UInt8.ofNat ((crcOf kind p).toNat / 65536) :: UInt8.ofNat ((crcOf kind p).toNat / 256) :: UInt8.ofNat (crcOf kind p).toNat :: UInt8.ofNat (p.length / 256) :: UInt8.ofNat p.length :: kind :: p := by
      simpa [partB, headB, four] using ht
    simp only [List.cons.injEq] at e
    obtain ⟨_, _, _, _, e1, e0, _, er⟩ := e
    have hl : l1.toNat * 256 + l0.toNat = p.length := by
      rw [e1, e0]; simp only [UInt8.toNat_ofNat']; omega
    simp only [List.length_cons] at hlt
    rw [if_pos (.inr (.inl (by omega)))]
  · rfl
theorem fitKind_of (first whole : Bool) : fitKind (!first) (kindOf first whole) = true := by cases first <;> cases whole <;> decide
theorem goesOn_of (first whole : Bool) : goesOn (kindOf first whole) = !whole := by cases first <;> cases whole <;> decide
theorem writ_eq (p : Nat) (first : Bool) (r : List UInt8) : writ p first r = zeros (gapOf p) ++ (partB (kindOf first (decide (fits p r = r.length))) (r.take (fits p r)) ++
    (if fits p r = r.length then [] else writ (p + gapOf p + 7 + fits p r) false (r.drop (fits p r)))) := by
  rw [writ]; split <;> rfl
theorem length_take_fits (p : Nat) (r : List UInt8) : (r.take (fits p r)).length = fits p r := by rw [List.length_take]; exact Nat.min_eq_left (fits_le p r)
theorem fits_room2 (p : Nat) (r : List UInt8) : fits p r ≤ 128 - (p + gapOf p + 7) % 128 ∨ fits p r = 0 := by
  have := room_pos p
  unfold fits
  omega
/-- What was written is read back; reading goes on behind it. -/
theorem readFrom_writ (n : Nat) : ∀ (a c : List UInt8) (first : Bool) (r record : List UInt8) (last : Nat), r.length ≤ n →
    readFrom (a ++ (writ a.length first r ++ c)) a.length (!first) record last =
      ((record ++ r) :: (readFrom (a ++ (writ a.length first r ++ c)) (a.length + (writ a.length first r).length) false [] (a.length + (writ a.length first r).length)).1,
        (readFrom (a ++ (writ a.length first r ++ c)) (a.length + (writ a.length first r).length) false [] (a.length + (writ a.length first r).length)).2) := by
  induction n with
  | zero =>
    intro a c first r record last hn
    have hr : r = [] := List.eq_nil_of_length_eq_zero (by omega)
    subst hr
    have hf : fits a.length [] = 0 := by simp [fits]
    have hw : writ a.length first [] = zeros (gapOf a.length) ++ partB (kindOf first true) [] := by rw [writ_eq, hf]; simp
    have hp := partAt_part (a ++ zeros (gapOf a.length)) c (kindOf first true) [] (by simp) (.inr rfl)
    have he : a ++ zeros (gapOf a.length) ++ (partB (kindOf first true) [] ++ c) = a ++ (writ a.length first [] ++ c) := by rw [hw]; simp
    have hl : (a ++ zeros (gapOf a.length)).length = a.length + gapOf a.length := by simp [zeros]
    rw [he, hl] at hp
    rw [readFrom_whole hp (fitKind_of first true) (by rw [goesOn_of]; rfl)]
    have : a.length + gapOf a.length + 7 + ([] : List UInt8).length = a.length + (writ a.length first []).length := by rw [hw]; simp [zeros, partB_length]; omega
    simp only [this]
  | succ n ih =>
    intro a c first r record last hn
    have hp := partAt_part (a ++ zeros (gapOf a.length)) ((if fits a.length r = r.length then [] else writ (a.length + gapOf a.length + 7 + fits a.length r) false (r.drop (fits a.length r))) ++ c) (kindOf first (decide (fits a.length r = r.length))) (r.take (fits a.length r)) (by rw [length_take_fits]; exact fits_room _ _) (by
      rw [length_take_fits]; simp only [zeros, List.length_append, List.length_replicate]; exact fits_room2 _ _)
    have he : a ++ zeros (gapOf a.length) ++ (partB (kindOf first (decide (fits a.length r = r.length))) (r.take (fits a.length r)) ++ ((if fits a.length r = r.length then [] else writ (a.length + gapOf a.length + 7 + fits a.length r) false (r.drop (fits a.length r))) ++ c)) = a ++ (writ a.length first r ++ c) := by
      conv => rhs; rw [writ_eq]
      simp only [List.append_assoc]
    have hl : (a ++ zeros (gapOf a.length)).length = a.length + gapOf a.length := by simp [zeros]
    rw [he, hl, length_take_fits] at hp
    by_cases hf : fits a.length r = r.length
    · have hwl : (writ a.length first r).length = gapOf a.length + 7 + fits a.length r := by
        rw [writ_eq, if_pos hf]; simp [zeros, partB_length, fits_le]; omega
      rw [readFrom_whole hp (fitKind_of _ _) (by rw [goesOn_of, decide_eq_true hf]; rfl)]
      have e1 : a.length + gapOf a.length + 7 + fits a.length r = a.length + (writ a.length first r).length := by omega
      have e2 : r.take (fits a.length r) = r := by rw [hf]; exact List.take_length
      simp only [e1, e2]
    · rw [readFrom_on hp (fitKind_of _ _) (by rw [goesOn_of, decide_eq_false hf]; rfl)]
      -- the rest, from the next part on
      have hpos : 0 < r.length := by
        rcases Nat.eq_zero_or_pos r.length with h0 | h0
        · have := fits_le a.length r; omega
        · exact h0
      have hfp := fits_pos a.length r hpos
      have hfl := fits_le a.length r
      have ih' := ih (a ++ (zeros (gapOf a.length) ++ partB (kindOf first false) (r.take (fits a.length r)))) c false (r.drop (fits a.length r)) (record ++ r.take (fits a.length r)) last (by simp only [List.length_drop]; omega)
      have hal : (a ++ (zeros (gapOf a.length) ++ partB (kindOf first false) (r.take (fits a.length r)))).length = a.length + gapOf a.length + 7 + fits a.length r := by
        simp [zeros, partB_length, hfl]; omega
      have hw : writ a.length first r = zeros (gapOf a.length) ++ (partB (kindOf first false) (r.take (fits a.length r)) ++ writ (a.length + gapOf a.length + 7 + fits a.length r) false (r.drop (fits a.length r))) := by
        rw [writ_eq, if_neg hf, decide_eq_false hf]
      rw [hal] at ih'
      have hb : a ++ (zeros (gapOf a.length) ++ partB (kindOf first false) (r.take (fits a.length r))) ++ (writ (a.length + gapOf a.length + 7 + fits a.length r) false (r.drop (fits a.length r)) ++ c) = a ++ (writ a.length first r ++ c) := by rw [hw]; simp only [List.append_assoc]
      rw [hb] at ih'
      simp only [Bool.not_false] at ih'
      rw [ih']
      have hend : a.length + gapOf a.length + 7 + fits a.length r + (writ (a.length + gapOf a.length + 7 + fits a.length r) false (r.drop (fits a.length r))).length = a.length + (writ a.length first r).length := by
        rw [hw]; simp [zeros, partB_length, hfl]; omega
      rw [hend, List.append_assoc, List.take_append_drop]
theorem partAt_end {b : List UInt8} {p : Nat} (h : b.length ≤ p) : partAt b p = none := by
  unfold partAt; rw [List.drop_eq_nil_of_le h]
theorem partAt_short (a t c : List UInt8) (g : Nat) (kind : UInt8) (p : List UInt8) (h1 : p.length ≤ 121) (ht : t ++ c = zeros g ++ partB kind p) (hc : c ≠ []) : partAt (a ++ t) (a.length + g) = none := by
  have hz : (zeros g).length = g := by simp [zeros]
  rcases Nat.lt_or_ge g t.length with h | h
  · have e : t = zeros g ++ t.drop g := by
      have := congrArg (List.take g) ht
      rw [List.take_append_of_le_length (by omega), List.take_left' hz] at this
      conv => lhs; rw [← List.take_append_drop g t, this]
    have ht2 : t.drop g ++ c = partB kind p := by
      have := congrArg (List.drop g) ht
      rw [List.drop_append_of_le_length (by omega), List.drop_left' hz] at this
      exact this
    have := partAt_cut (a ++ zeros g) (t.drop g) c kind p h1 ht2 hc
    rw [List.append_assoc, ← e, List.length_append, hz] at this
    exact this
  · exact partAt_end (by rw [List.length_append]; omega)
/-- .. and what was cut off is not. -/
theorem readFrom_cut (a t c : List UInt8) (first : Bool) (r record : List UInt8) (last : Nat) (ht : t ++ c = writ a.length first r) (hc : c ≠ []) :
    readFrom (a ++ t) a.length (!first) record last = ([], last) := by
  have hcl : 0 < c.length := List.length_pos_iff.2 hc
  have hfl := fits_le a.length r
  have hz : (zeros (gapOf a.length)).length = gapOf a.length := by simp [zeros]
  have hpl : (partB (kindOf first (decide (fits a.length r = r.length))) (r.take (fits a.length r))).length = 7 + fits a.length r := by rw [partB_length, length_take_fits]
  have hw := writ_eq a.length first r
  rw [← List.append_assoc] at hw
  have hgl : (zeros (gapOf a.length) ++ partB (kindOf first (decide (fits a.length r = r.length))) (r.take (fits a.length r))).length = gapOf a.length + 7 + fits a.length r := by rw [List.length_append, hz, hpl]; omega
  by_cases hlen : t.length < gapOf a.length + 7 + fits a.length r
  · refine readFrom_none (partAt_short a t (c.take (gapOf a.length + 7 + fits a.length r - t.length)) (gapOf a.length) (kindOf first (decide (fits a.length r = r.length))) (r.take (fits a.length r)) (by rw [length_take_fits]; exact fits_room _ _) ?_ ?_)
    · have e := congrArg (List.take (gapOf a.length + 7 + fits a.length r)) ht
      rw [hw, List.take_left' hgl, List.take_append, List.take_of_length_le (Nat.le_of_lt hlen)] at e
      exact e
    · intro e
      have := congrArg List.length e
      rw [List.length_take, List.length_nil] at this
      omega
  · have hf : ¬ fits a.length r = r.length := fun hf => by
      have := congrArg List.length ht
      rw [hw, if_pos hf, List.append_nil, hgl, List.length_append] at this
      omega
    have hpos : 0 < r.length := by
      rcases Nat.eq_zero_or_pos r.length with h0 | h0
      · omega
      · exact h0
    have hfp := fits_pos a.length r hpos
    rw [if_neg hf] at hw
    rw [hw] at ht
    have e1 : t = (zeros (gapOf a.length) ++ partB (kindOf first (decide (fits a.length r = r.length))) (r.take (fits a.length r))) ++ t.drop (gapOf a.length + 7 + fits a.length r) := by
      have := congrArg (List.take (gapOf a.length + 7 + fits a.length r)) ht
      rw [List.take_left' hgl, List.take_append_of_le_length (by omega)] at this
      conv => lhs; rw [← List.take_append_drop (gapOf a.length + 7 + fits a.length r) t, this]
    have e2 : t.drop (gapOf a.length + 7 + fits a.length r) ++ c = writ (a.length + gapOf a.length + 7 + fits a.length r) false (r.drop (fits a.length r)) := by
      have := congrArg (List.drop (gapOf a.length + 7 + fits a.length r)) ht
      rw [List.drop_left' hgl, List.drop_append_of_le_length (by omega)] at this
      exact this
    generalize ht2 : t.drop (gapOf a.length + 7 + fits a.length r) = t2 at e1 e2
    have hp := partAt_part (a ++ zeros (gapOf a.length)) t2 (kindOf first (decide (fits a.length r = r.length))) (r.take (fits a.length r)) (by rw [length_take_fits]; exact fits_room _ _) (by
      rw [length_take_fits, List.length_append, hz]; exact fits_room2 _ _)
    have hb : a ++ zeros (gapOf a.length) ++ (partB (kindOf first (decide (fits a.length r = r.length))) (r.take (fits a.length r)) ++ t2) = a ++ t := by rw [e1]; simp only [List.append_assoc]
    rw [hb, List.length_append, hz, length_take_fits] at hp
    rw [readFrom_on hp (fitKind_of _ _) (by rw [goesOn_of, decide_eq_false hf]; rfl)]
    have hal : (a ++ (zeros (gapOf a.length) ++ partB (kindOf first (decide (fits a.length r = r.length))) (r.take (fits a.length r)))).length = a.length + gapOf a.length + 7 + fits a.length r := by
      rw [List.length_append, hgl]; omega
    have ih := readFrom_cut (a ++ (zeros (gapOf a.length) ++ partB (kindOf first (decide (fits a.length r = r.length))) (r.take (fits a.length r)))) t2 c false (r.drop (fits a.length r)) (record ++ r.take (fits a.length r)) last (by rw [hal]; exact e2) hc
    rw [hal, List.append_assoc, ← e1] at ih
    exact ih
termination_by r.length
decreasing_by simp only [List.length_drop]; omega
/-! ### A journal -/
def journal (a : List UInt8) (l : List (List UInt8)) : List UInt8 := l.foldl (fun b r => b ++ writ b.length true r) a
theorem journal_cons (a r : List UInt8) (l : List (List UInt8)) : journal a (r :: l) = journal (a ++ writ a.length true r) l := rfl
theorem journal_snoc (a r : List UInt8) (l : List (List UInt8)) : journal a (l ++ [r]) = journal a l ++ writ (journal a l).length true r := by simp [journal]
theorem journal_append (a : List UInt8) (l m : List (List UInt8)) : journal a (l ++ m) = journal (journal a l) m := by simp [journal]
theorem journal_tail : ∀ (l : List (List UInt8)) (a : List UInt8), ∃ t, journal a l = a ++ t
  | [], a => ⟨[], by simp [journal]⟩
  | r :: l, a => by
    obtain ⟨t, ht⟩ := journal_tail l (a ++ writ a.length true r)
    exact ⟨writ a.length true r ++ t, by rw [journal_cons, ht, List.append_assoc]⟩
theorem readFrom_journal : ∀ (l : List (List UInt8)) (a c : List UInt8), 
    readFrom (journal a l ++ c) a.length false [] a.length = (l ++ (readFrom (journal a l ++ c) (journal a l).length false [] (journal a l).length).1, (readFrom (journal a l ++ c) (journal a l).length false [] (journal a l).length).2)
  | [], a, c => rfl
  | r :: l, a, c => by
    have ih := readFrom_journal l (a ++ writ a.length true r) c
    obtain ⟨t, ht⟩ := journal_tail l (a ++ writ a.length true r)
    rw [journal_cons]
    have hw := readFrom_writ r.length a (t ++ c) true r [] a.length (Nat.le_refl _)
    have e : a ++ (writ a.length true r ++ (t ++ c)) = journal (a ++ writ a.length true r) l ++ c := by rw [ht]; simp only [List.append_assoc]
    rw [e] at hw
    simp only [Bool.not_true, List.nil_append] at hw
    rw [hw]
    rw [List.length_append] at ih
    rw [ih]
    simp
theorem readAll_journal (l : List (List UInt8)) : readAll (journal [] l) = (l, (journal [] l).length) := by
  have h := readFrom_journal l [] []
  rw [List.append_nil] at h
  rw [readFrom_none (p := (journal [] l).length) (partAt_end (Nat.le_add_right _ _))] at h
  simpa [readAll] using h
/-- Of a journal and something more, from which no record reads. -/
theorem readAll_then (l : List (List UInt8)) (c : List UInt8) (h : (readFrom (journal [] l ++ c) (journal [] l).length false [] (journal [] l).length) = ([], (journal [] l).length)) : readAll (journal [] l ++ c) = (l, (journal [] l).length) := by
  have h2 := readFrom_journal l [] c
  rw [h] at h2
  simpa [readAll] using h2
theorem readAll_cut (l : List (List UInt8)) (r t c : List UInt8) (ht : t ++ c = writ (journal [] l).length true r) (hc : c ≠ []) : readAll (journal [] l ++ t) = (l, (journal [] l).length) :=
  readAll_then l t (readFrom_cut (journal [] l) t c true r [] _ ht hc)
/-- how many records have all their bytes within the first k -/
def wholeOf (k : Nat) (l : List (List UInt8)) : Nat := go 0 l
where go (i : Nat) : List (List UInt8) → Nat
  | [] => i
  | _r :: m => if (journal [] (l.take (i + 1))).length ≤ k then go (i + 1) m else i
theorem journal_mono (l : List (List UInt8)) {i j : Nat} (h : i ≤ j) : (journal [] (l.take i)).length ≤ (journal [] (l.take j)).length := by
  have e : l.take j = l.take i ++ (l.take j).drop i := by
    conv => lhs; rw [← List.take_append_drop i (l.take j), List.take_take, Nat.min_eq_left h]
  rw [e, journal_append]
  obtain ⟨t, ht⟩ := journal_tail ((l.take j).drop i) (journal [] (l.take i))
  rw [ht, List.length_append]; omega
theorem readAll_take (l : List (List UInt8)) (k : Nat) (i : Nat) (hi : i < l.length) (h1 : (journal [] (l.take i)).length ≤ k) (h2 : k < (journal [] (l.take (i + 1))).length) : readAll ((journal [] l).take k) = (l.take i, (journal [] (l.take i)).length) := by
  have e : l.take (i + 1) = l.take i ++ [l[i]] := (List.take_succ_eq_append_getElem hi)
  have e2 : journal [] (l.take (i + 1)) = journal [] (l.take i) ++ writ (journal [] (l.take i)).length true l[i] := by rw [e, journal_snoc]
  obtain ⟨t, ht⟩ := journal_tail (l.drop (i + 1)) (journal [] (l.take (i + 1)))
  have e3 : journal [] l = journal [] (l.take (i + 1)) ++ t := by rw [← ht, ← journal_append, List.take_append_drop]
  have hk : k = (journal [] (l.take i)).length + (k - (journal [] (l.take i)).length) := by omega
  have hwl : (writ (journal [] (l.take i)).length true l[i]).length = (journal [] (l.take (i + 1))).length - (journal [] (l.take i)).length := by rw [e2, List.length_append]; omega
  have e4 : (journal [] l).take k = journal [] (l.take i) ++ (writ (journal [] (l.take i)).length true l[i]).take (k - (journal [] (l.take i)).length) := by
    rw [e3, e2, List.append_assoc, List.take_append, List.take_of_length_le h1, List.take_append_of_le_length (by omega)]
  rw [e4]
  refine readAll_cut (l.take i) l[i] _ ((writ (journal [] (l.take i)).length true l[i]).drop (k - (journal [] (l.take i)).length)) (List.take_append_drop _ _) fun e => ?_
  have := congrArg List.length e
  rw [List.length_drop, List.length_nil] at this
  omega
end Go.Sl
namespace Go.Sl
theorem writ_len (p : Nat) (first : Bool) (r : List UInt8) : (writ p first r).length = gapOf p + (7 + fits p r) + (if fits p r = r.length then 0 else (writ (p + gapOf p + 7 + fits p r) false (r.drop (fits p r))).length) := by
  rw [writ_eq]
  simp only [List.length_append, zeros, List.length_replicate, partB_length, length_take_fits]
  split
  · rfl
  · omega
theorem fits_zeros (p n : Nat) : fits p (zeros n) = min n (128 - (p + gapOf p) % 128 - 7) := by simp [fits, zeros]
theorem writ_len_same (m : Nat) : ∀ (p : Nat) (f g : Bool) (r s : List UInt8), r.length ≤ m → r.length = s.length → (writ p f r).length = (writ p g s).length := by
  induction m with
  | zero =>
    intro p f g r s h e
    have hr : r = [] := List.eq_nil_of_length_eq_zero (by omega)
    have hs : s = [] := List.eq_nil_of_length_eq_zero (by omega)
    subst hr hs
    rw [writ_len, writ_len p g, if_pos (by simp [fits])]
  | succ m ih =>
    intro p f g r s h e
    have hf : fits p r = fits p s := by unfold fits; rw [e]
    rw [writ_len, writ_len p g, ← hf, ← e]
    congr 1
    split
    · rfl
    · rename_i hne
      have h0 : 0 < r.length := by
        rcases Nat.eq_zero_or_pos r.length with h0 | h0
        · have := fits_le p r; omega
        · exact h0
      have := fits_pos p r h0
      exact ih _ _ _ _ _ (by rw [List.length_drop]; omega) (by simp [e])
/-- so many bytes a record of n takes from a place on -/
def takes (p n : Nat) : Nat := (writ p true (zeros n)).length
theorem takes_of (p : Nat) (f : Bool) (r : List UInt8) : (writ p f r).length = takes p r.length := writ_len_same _ _ _ _ _ _ (Nat.le_refl _) (by simp [zeros])
theorem takes_step (p n : Nat) : takes p n = gapOf p + (7 + min n (128 - (p + gapOf p) % 128 - 7)) + (if min n (128 - (p + gapOf p) % 128 - 7) = n then 0 else takes (p + gapOf p + 7 + min n (128 - (p + gapOf p) % 128 - 7)) (n - min n (128 - (p + gapOf p) % 128 - 7))) := by
  unfold takes
  rw [writ_len, fits_zeros]
  have hz : (zeros n).length = n := by simp [zeros]
  rw [hz]
  congr 1
  split
  · rfl
  · exact writ_len_same _ _ _ _ _ _ (Nat.le_refl _) (by simp [zeros])
theorem takes_block (m : Nat) : ∀ (p n : Nat), n ≤ m → p % 128 = 0 → takes p n ≤ 2 * n + 7 := by
  induction m with
  | zero =>
    intro p n h hp
    have hn : n = 0 := by omega
    subst hn
    have : gapOf p = 0 := by unfold gapOf; split <;> omega
    rw [takes_step, this]; simp
  | succ m ih =>
    intro p n h hp
    have hg : gapOf p = 0 := by unfold gapOf; split <;> omega
    rw [takes_step, hg]
    simp only [Nat.add_zero, hp, Nat.zero_add, Nat.sub_zero]
    split
    · omega
    · have h1 : min n (128 - 7) = 121 := by omega
      rw [h1]
      have := ih (p + 7 + 121) (n - 121) (by omega) (by omega)
      omega
theorem takes_le (p n : Nat) : takes p n ≤ 2 * n + 21 := by
  have hr := room_pos p
  rw [takes_step]
  have hg := gapOf_le p
  split
  · omega
  · rename_i hne
    have h1 : min n (128 - (p + gapOf p) % 128 - 7) = 128 - (p + gapOf p) % 128 - 7 := by omega
    rw [h1]
    have := takes_block (n - (128 - (p + gapOf p) % 128 - 7)) (p + gapOf p + 7 + (128 - (p + gapOf p) % 128 - 7)) (n - (128 - (p + gapOf p) % 128 - 7)) (Nat.le_refl _) (by omega)
    omega
theorem takes_pos (p n : Nat) : 7 ≤ takes p n := by rw [takes_step]; omega
theorem writ_le (p : Nat) (f : Bool) (r : List UInt8) : (writ p f r).length ≤ 2 * r.length + 21 := by rw [takes_of]; exact takes_le _ _
theorem writ_pos (p : Nat) (f : Bool) (r : List UInt8) : 7 ≤ (writ p f r).length := by rw [takes_of]; exact takes_pos _ _
theorem journal_le : ∀ (l : List (List UInt8)) (a : List UInt8) (i : Nat), (journal a (l.take i)).length ≤ a.length + 21 * l.length + 2 * (l.map List.length).sum
  | [], a, i => by simp [journal]
  | r :: l, a, 0 => by simp [journal]; omega
  | r :: l, a, i + 1 => by
    rw [List.take_succ_cons, journal_cons]
    have h := journal_le l (a ++ writ a.length true r) i
    have h1 := writ_le a.length true r
    simp only [List.length_append, List.length_cons, List.map_cons, List.sum_cons] at h ⊢
    omega
/-- A part with other bytes, of another sum, is not read. -/
theorem partAt_wrong (a c : List UInt8) (kind : UInt8) (p q : List UInt8) (h1 : p.length ≤ 121) (hq : q.length = p.length) (hne : crcOf kind q ≠ crcOf kind p) : partAt (a ++ (headB kind p ++ (q ++ c))) a.length = none := by
  have hl : (UInt8.ofNat (p.length / 256)).toNat * 256 + (UInt8.ofNat p.length).toNat = p.length := by
    simp only [UInt8.toNat_ofNat']; omega
  have e : (a ++ (headB kind p ++ (q ++ c))).drop a.length = UInt8.ofNat ((crcOf kind p).toNat / 16777216) :: UInt8.ofNat ((crcOf kind p).toNat / 65536) :: UInt8.ofNat ((crcOf kind p).toNat / 256) :: UInt8.ofNat (crcOf kind p).toNat :: UInt8.ofNat (p.length / 256) :: UInt8.ofNat p.length :: kind :: (q ++ c) := by
    rw [List.drop_left]; simp [headB, four]
  unfold partAt
  rw [e]
  simp only [hl, four4_four _ (crcOf kind p).isLt]
  rw [if_pos]
  refine .inr (.inr fun hh => hne ?_)
  rw [← hq, List.take_left] at hh
  exact BitVec.eq_of_toNat_eq hh
/-- the four bytes from a place on, turned by four others -/
def turn4 (at_ : Nat) (t0 t1 t2 t3 : UInt8) (b : List UInt8) : List UInt8 :=
  b.take at_ ++ (match b.drop at_ with
    | c0 :: c1 :: c2 :: c3 :: rest => (c0 ^^^ t0) :: (c1 ^^^ t1) :: (c2 ^^^ t2) :: (c3 ^^^ t3) :: rest
    | l => l)
theorem readAll_turned (l m : List (List UInt8)) (r : List UInt8) (t0 t1 t2 t3 : UInt8) (h4 : 4 ≤ r.length) (hroom : 11 ≤ 128 - ((journal [] l).length + gapOf (journal [] l).length) % 128) (ht : ¬ (t0 = 0 ∧ t1 = 0 ∧ t2 = 0 ∧ t3 = 0)) :
    readAll (turn4 ((journal [] l).length + gapOf (journal [] l).length + 7) t0 t1 t2 t3 (journal [] (l ++ r :: m))) = (l, (journal [] l).length) := by
  obtain ⟨t, e⟩ := journal_tail m (journal [] (l ++ [r]))
  have e1 : journal [] (l ++ r :: m) = journal [] l ++ (writ (journal [] l).length true r ++ t) := by
    rw [show l ++ r :: m = (l ++ [r]) ++ m by simp, journal_append, e, journal_snoc, List.append_assoc]
  generalize hb : journal [] l = b at *
  obtain ⟨n, hn⟩ : ∃ n, fits b.length r = n := ⟨_, rfl⟩
  have hfit : 4 ≤ n := by rw [← hn]; unfold fits; omega
  have hn1 : n ≤ 121 := by rw [← hn]; exact fits_room _ _
  have hlen : (r.take n).length = n := by rw [← hn]; exact length_take_fits _ _
  obtain ⟨kind, hk⟩ : ∃ kind, kindOf true (decide (n = r.length)) = kind := ⟨_, rfl⟩
  obtain ⟨rest, hrest⟩ : ∃ rest, writ b.length true r ++ t = zeros (gapOf b.length) ++ (headB kind (r.take n) ++ (r.take n ++ rest)) := by
    rw [writ_eq, hn, hk]
    exact ⟨(if n = r.length then [] else writ (b.length + gapOf b.length + 7 + n) false (r.drop n)) ++ t, by simp only [partB, List.append_assoc]⟩
  obtain ⟨c0, c1, c2, c3, tl, htl⟩ : ∃ c0 c1 c2 c3 tl, r.take n = c0 :: c1 :: c2 :: c3 :: tl := by
    match hr : r.take n with
    | [] => rw [hr] at hlen; simp at hlen; omega
    | [_] => rw [hr] at hlen; simp at hlen; omega
    | [_, _] => rw [hr] at hlen; simp at hlen; omega
    | [_, _, _] => rw [hr] at hlen; simp at hlen; omega
    | c0 :: c1 :: c2 :: c3 :: tl => exact ⟨c0, c1, c2, c3, tl, rfl⟩
  have e2 : journal [] (l ++ r :: m) = (b ++ (zeros (gapOf b.length) ++ headB kind (r.take n))) ++ (c0 :: c1 :: c2 :: c3 :: (tl ++ rest)) := by
    rw [e1, hrest, ← List.cons_append, ← List.cons_append, ← List.cons_append, ← List.cons_append, ← htl]; simp only [List.append_assoc]
  have hl2 : (b ++ (zeros (gapOf b.length) ++ headB kind (r.take n))).length = b.length + gapOf b.length + 7 := by
    simp only [List.length_append, zeros, List.length_replicate, headB_length]; omega
  have e3 : turn4 (b.length + gapOf b.length + 7) t0 t1 t2 t3 (journal [] (l ++ r :: m)) = b ++ (zeros (gapOf b.length) ++ (headB kind (r.take n) ++ (((c0 ^^^ t0) :: (c1 ^^^ t1) :: (c2 ^^^ t2) :: (c3 ^^^ t3) :: tl) ++ rest))) := by
    unfold turn4
    rw [e2, ← hl2, List.take_left, List.drop_left]
    simp only [List.append_assoc, List.cons_append]
  rw [e3]
  have := readAll_then l (zeros (gapOf b.length) ++ (headB kind (r.take n) ++ (((c0 ^^^ t0) :: (c1 ^^^ t1) :: (c2 ^^^ t2) :: (c3 ^^^ t3) :: tl) ++ rest))) (by
    rw [hb]
    refine readFrom_none ?_
    have := partAt_wrong (b ++ zeros (gapOf b.length)) rest kind (r.take n) ((c0 ^^^ t0) :: (c1 ^^^ t1) :: (c2 ^^^ t2) :: (c3 ^^^ t3) :: tl) (by omega) (by rw [htl]; rfl) (by rw [htl]; exact crc_turned _ _ _ _ _ _ _ _ _ _ ht)
    rw [List.append_assoc] at this
    simpa [zeros] using this)
  rw [hb] at this
  exact this
end Go.Sl
