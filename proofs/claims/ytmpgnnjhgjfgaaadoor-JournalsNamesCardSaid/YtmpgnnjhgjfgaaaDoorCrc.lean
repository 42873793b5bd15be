/- The sum over bytes that journals and frames use, in plain words, and that it tells if up to 32 bits in a row are turned: definitions and plain lemmas. -/
import Derived.WalkKit
namespace Go.Sl
/-- one bit further -/
def crcBit (n : BitVec 32) : BitVec 32 := (n >>> 1) ^^^ (if n.getLsbD 0 then 0x82f63b78#32 else 0#32)
def crcBits : Nat → BitVec 32 → BitVec 32
  | 0, n => n
  | k + 1, n => crcBits k (crcBit n)
def crcTab (i : Nat) : BitVec 32 := crcBits 8 (BitVec.ofNat 32 i)
/-- one byte further -/
def crcUpd (n : BitVec 32) (c : UInt8) : BitVec 32 := (n >>> 8) ^^^ crcTab (n.toNat % 256 ^^^ c.toNat)
def crcOn (s : BitVec 32) (b : List UInt8) : BitVec 32 := ~~~ (b.foldl crcUpd (~~~ s))
/-- a part's sum -/
def crcOf (kind : UInt8) (b : List UInt8) : BitVec 32 := crcOn (crcOn 0#32 [kind]) b
theorem crcOf_eq (kind : UInt8) (b : List UInt8) : crcOf kind b = ~~~ ((kind :: b).foldl crcUpd (~~~ 0#32)) := by
  simp [crcOf, crcOn]
theorem crcBit_xor (a b : BitVec 32) : crcBit (a ^^^ b) = crcBit a ^^^ crcBit b := by
  unfold crcBit
  rw [BitVec.getLsbD_xor, BitVec.ushiftRight_xor_distrib]
  generalize a >>> 1 = x
  generalize b >>> 1 = y
  generalize 0x82f63b78#32 = d
  have h1 : x ^^^ y ^^^ d = x ^^^ d ^^^ y := by rw [BitVec.xor_assoc, BitVec.xor_comm y, ← BitVec.xor_assoc]
  have h2 : x ^^^ y = x ^^^ d ^^^ (y ^^^ d) := by
    rw [BitVec.xor_comm y d, BitVec.xor_assoc, ← BitVec.xor_assoc d d, BitVec.xor_self, BitVec.zero_xor]
  cases a.getLsbD 0 <;> cases b.getLsbD 0 <;> simp only [Bool.xor_false, Bool.xor_true, Bool.not_false, Bool.not_true, if_true, if_false, Bool.false_eq_true, BitVec.xor_zero]
  · rw [BitVec.xor_assoc]
  · exact h1
  · exact h2
theorem crcBits_xor : ∀ (k : Nat) (a b : BitVec 32), crcBits k (a ^^^ b) = crcBits k a ^^^ crcBits k b
  | 0, _, _ => rfl
  | k + 1, a, b => by simp only [crcBits]; rw [crcBit_xor, crcBits_xor k]
theorem crcBit_even (n : BitVec 32) (h : n.getLsbD 0 = false) : crcBit n = n >>> 1 := by
  unfold crcBit; rw [h]; simp
theorem crcBits_low : ∀ (k : Nat) (n : BitVec 32), (∀ i, i < k → n.getLsbD i = false) → crcBits k n = n >>> k
  | 0, n, _ => by simp [crcBits]
  | k + 1, n, h => by
    simp only [crcBits]
    rw [crcBit_even n (h 0 (by omega)), crcBits_low k (n >>> 1) (fun i hi => by rw [BitVec.getLsbD_ushiftRight]; exact h (1 + i) (by omega)), ← BitVec.shiftRight_add, Nat.add_comm]
theorem crcBit_zero {n : BitVec 32} (h : crcBit n = 0#32) : n = 0#32 := by
  have h31 := congrArg (fun x : BitVec 32 => x.getLsbD 31) h
  simp only [crcBit, BitVec.getLsbD_xor, BitVec.getLsbD_ushiftRight, BitVec.getLsbD_zero] at h31
  rw [BitVec.getLsbD_of_ge n (1 + 31) (by omega)] at h31
  have h0 : n.getLsbD 0 = false := by
    cases h0 : n.getLsbD 0 with
    | false => rfl
    | true => rw [h0] at h31; simp at h31
  rw [crcBit_even n h0] at h
  apply BitVec.eq_of_getLsbD_eq
  intro i hi
  cases i with
  | zero => simpa using h0
  | succ i =>
    have := congrArg (fun x : BitVec 32 => x.getLsbD i) h
    simp only [BitVec.getLsbD_ushiftRight, BitVec.getLsbD_zero] at this
    rw [Nat.add_comm i 1, this]; simp
theorem crcBits_zero : ∀ (k : Nat) {n : BitVec 32}, crcBits k n = 0#32 → n = 0#32
  | 0, _, h => h
  | k + 1, _, h => crcBit_zero (crcBits_zero k h)
theorem xor_eq_zero {a b : BitVec 32} (h : a ^^^ b = 0#32) : a = b := by
  have : (a ^^^ b) ^^^ b = b := by rw [h, BitVec.zero_xor]
  rwa [BitVec.xor_assoc, BitVec.xor_self, BitVec.xor_zero] at this
theorem crcBits_inj (k : Nat) {a b : BitVec 32} (h : crcBits k a = crcBits k b) : a = b := by
  refine xor_eq_zero (crcBits_zero k ?_)
  rw [crcBits_xor, h, BitVec.xor_self]
/-- A byte as 32 bits. -/
def wide (c : UInt8) : BitVec 32 := BitVec.ofNat 32 c.toNat
theorem wide_lsb (c : UInt8) (i : Nat) : (wide c).getLsbD i = (decide (i < 8) && c.toNat.testBit i) := by
  unfold wide
  rw [BitVec.getLsbD_ofNat]
  by_cases h : i < 8
  · simp [h, show i < 32 by omega]
  · have hc : c.toNat.testBit i = false := Nat.testBit_lt_two_pow (Nat.lt_of_lt_of_le c.toNat_lt (Nat.pow_le_pow_right (by omega) (by omega : 8 ≤ i)))
    simp [h, hc]
theorem crcUpd_eq (n : BitVec 32) (c : UInt8) : crcUpd n c = crcBits 8 (n ^^^ wide c) := by
  have e : n ^^^ wide c = (n >>> 8) <<< 8 ^^^ BitVec.ofNat 32 (n.toNat % 256 ^^^ c.toNat) := by
    apply BitVec.eq_of_getLsbD_eq
    intro i hi
    rw [BitVec.getLsbD_xor, BitVec.getLsbD_xor, BitVec.getLsbD_shiftLeft, BitVec.getLsbD_ushiftRight, BitVec.getLsbD_ofNat, wide_lsb, Nat.testBit_xor, show (256 : Nat) = 2 ^ 8 by decide, Nat.testBit_mod_two_pow]
    by_cases h : i < 8
    · simp [h, hi, BitVec.getLsbD]
    · have hc : c.toNat.testBit i = false := Nat.testBit_lt_two_pow (Nat.lt_of_lt_of_le c.toNat_lt (Nat.pow_le_pow_right (by omega) (by omega : 8 ≤ i)))
      simp [h, hi, hc, show 8 + (i - 8) = i by omega]
  rw [e, crcBits_xor, crcBits_low 8 _ (fun i hi => by rw [BitVec.getLsbD_shiftLeft]; simp [hi])]
  unfold crcUpd crcTab
  congr 1
  apply BitVec.eq_of_getLsbD_eq
  intro i hi
  rw [BitVec.getLsbD_ushiftRight, BitVec.getLsbD_ushiftRight, BitVec.getLsbD_shiftLeft, BitVec.getLsbD_ushiftRight]
  by_cases h : 8 + i < 32
  · simp [h, show ¬ 8 + i < 8 by omega]
  · rw [BitVec.getLsbD_of_ge n (8 + i) (by omega)]; simp [h]
theorem crcUpd_inj {n m : BitVec 32} {c : UInt8} (h : crcUpd n c = crcUpd m c) : n = m := by
  rw [crcUpd_eq, crcUpd_eq] at h
  have := crcBits_inj 8 h
  have h2 := congrArg (fun x => x ^^^ wide c) this
  simp only [BitVec.xor_assoc, BitVec.xor_self, BitVec.xor_zero] at h2
  exact h2
theorem crcFold_inj : ∀ (b : List UInt8) {n m : BitVec 32}, b.foldl crcUpd n = b.foldl crcUpd m → n = m
  | [], _, _, h => h
  | _ :: b, _, _, h => crcUpd_inj (crcFold_inj b h)
/-- What two runs differ by. -/
theorem crcUpd_diff (n d : BitVec 32) (c t : UInt8) : crcUpd (n ^^^ d) (c ^^^ t) = crcUpd n c ^^^ crcBits 8 (d ^^^ wide t) := by
  rw [crcUpd_eq, crcUpd_eq, ← crcBits_xor]
  congr 1
  have : wide (c ^^^ t) = wide c ^^^ wide t := by
    apply BitVec.eq_of_getLsbD_eq
    intro i hi
    rw [BitVec.getLsbD_xor, wide_lsb, wide_lsb, wide_lsb, UInt8.toNat_xor, Nat.testBit_xor]
    by_cases h : i < 8 <;> simp [h]
  rw [this, BitVec.xor_assoc, BitVec.xor_assoc, ← BitVec.xor_assoc d, BitVec.xor_comm d (wide c), BitVec.xor_assoc]
theorem shl8_low (x : BitVec 32) (i : Nat) (hi : i < 8) : (x <<< 8).getLsbD i = false := by
  rw [BitVec.getLsbD_shiftLeft]; simp [hi]
theorem crcBits8_shl (x : BitVec 32) (h : ∀ i, 24 ≤ i → x.getLsbD i = false) : crcBits 8 (x <<< 8) = x := by
  rw [crcBits_low 8 _ (fun i hi => shl8_low x i hi)]
  apply BitVec.eq_of_getLsbD_eq
  intro i hi
  rw [BitVec.getLsbD_ushiftRight, BitVec.getLsbD_shiftLeft]
  by_cases h2 : 8 + i < 32
  · simp [h2, show ¬ 8 + i < 8 by omega]
  · rw [h i (by omega)]; simp [h2]
theorem wide_zero {c : UInt8} (h : wide c = 0#32) : c = 0 := by
  have h1 := congrArg BitVec.toNat h
  unfold wide at h1
  rw [BitVec.toNat_ofNat] at h1
  have := c.toNat_lt
  have h2 : c.toNat = 0 := by simp at h1; omega
  exact UInt8.toNat_inj.1 (by simpa using h2)
/-- Four bytes in a row turned, not all by nothing: the runs part. -/
theorem crcFour (n : BitVec 32) (c0 c1 c2 c3 t0 t1 t2 t3 : UInt8) (h : [c0 ^^^ t0, c1 ^^^ t1, c2 ^^^ t2, c3 ^^^ t3].foldl crcUpd n = [c0, c1, c2, c3].foldl crcUpd n) : t0 = 0 ∧ t1 = 0 ∧ t2 = 0 ∧ t3 = 0 := by
  simp only [List.foldl_cons, List.foldl_nil] at h
  have hn : n = n ^^^ 0#32 := by rw [BitVec.xor_zero]
  have h0 : crcUpd n (c0 ^^^ t0) = crcUpd n c0 ^^^ crcBits 8 (0#32 ^^^ wide t0) := by
    conv => lhs; rw [hn]
    exact crcUpd_diff n 0#32 c0 t0
  rw [h0, crcUpd_diff, crcUpd_diff, crcUpd_diff, BitVec.zero_xor] at h
  have hd : crcBits 8 (crcBits 8 (crcBits 8 (crcBits 8 (wide t0) ^^^ wide t1) ^^^ wide t2) ^^^ wide t3) = 0#32 := by
    have h2 := congrArg (fun x => crcUpd (crcUpd (crcUpd (crcUpd n c0) c1) c2) c3 ^^^ x) h
    simp only [← BitVec.xor_assoc, BitVec.xor_self, BitVec.zero_xor] at h2
    exact h2
  have d3 := xor_eq_zero (crcBits_zero 8 hd)
  have big : ∀ (t : UInt8) (i : Nat), 8 ≤ i → (wide t).getLsbD i = false := fun t i hi => by rw [wide_lsb]; simp [show ¬ i < 8 by omega]
  have e3 : crcBits 8 (wide t3 <<< 8) = wide t3 := crcBits8_shl _ fun i hi => big t3 i (by omega)
  rw [← e3] at d3
  have d2 := crcBits_inj 8 d3
  have d2' : crcBits 8 (crcBits 8 (wide t0) ^^^ wide t1) = wide t3 <<< 8 ^^^ wide t2 := by
    rw [← d2, BitVec.xor_assoc, BitVec.xor_self, BitVec.xor_zero]
  have hx2 : ∀ i, 16 ≤ i → (wide t3 <<< 8 ^^^ wide t2).getLsbD i = false := fun i hi => by
    rw [BitVec.getLsbD_xor, BitVec.getLsbD_shiftLeft, big t2 i (by omega)]
    simp [show ¬ i < 8 by omega, big t3 (i - 8) (by omega)]
  rw [← crcBits8_shl (wide t3 <<< 8 ^^^ wide t2) fun i hi => hx2 i (by omega)] at d2'
  have d1 := crcBits_inj 8 d2'
  generalize hy2 : wide t3 <<< 8 ^^^ wide t2 = y2 at *
  have d1' : crcBits 8 (wide t0) = y2 <<< 8 ^^^ wide t1 := by rw [← d1, BitVec.xor_assoc, BitVec.xor_self, BitVec.xor_zero]
  have hx1 : ∀ i, 24 ≤ i → (y2 <<< 8 ^^^ wide t1).getLsbD i = false := fun i hi => by
    rw [BitVec.getLsbD_xor, BitVec.getLsbD_shiftLeft, big t1 i (by omega)]
    simp [show ¬ i < 8 by omega, hx2 (i - 8) (by omega)]
  rw [← crcBits8_shl (y2 <<< 8 ^^^ wide t1) hx1] at d1'
  have d0 := crcBits_inj 8 d1'
  generalize hy1 : y2 <<< 8 ^^^ wide t1 = y1 at *
  -- a byte whose low bits are nothing
  have z0 : wide t0 = 0#32 := by
    apply BitVec.eq_of_getLsbD_eq
    intro i hi
    by_cases h8 : i < 8
    · rw [d0, shl8_low y1 i h8]; simp
    · rw [big t0 i (by omega)]; simp
  have up : ∀ (x : BitVec 32), x <<< 8 = 0#32 → (∀ i, 24 ≤ i → x.getLsbD i = false) → x = 0#32 := fun x hx hb => by
    rw [← crcBits8_shl x hb, hx]; decide
  have z1 : y1 = 0#32 := up y1 (by rw [← d0, z0]) hx1
  rw [z1] at hy1
  have low : ∀ (y : BitVec 32) (t : UInt8), y <<< 8 ^^^ wide t = 0#32 → wide t = 0#32 ∧ y <<< 8 = 0#32 := fun y t hh => by
    have e := xor_eq_zero hh
    have : wide t = 0#32 := by
      apply BitVec.eq_of_getLsbD_eq
      intro i hi
      by_cases h8 : i < 8
      · rw [← e, shl8_low y i h8]; simp
      · rw [big t i (by omega)]; simp
    exact ⟨this, by rw [e, this]⟩
  obtain ⟨w1, u1⟩ := low y2 t1 hy1
  have z2 : y2 = 0#32 := up y2 u1 fun i hi => hx2 i (by omega)
  rw [z2] at hy2
  obtain ⟨w2, u2⟩ := low (wide t3) t2 hy2
  have w3 : wide t3 = 0#32 := up (wide t3) u2 fun i hi => big t3 i (by omega)
  exact ⟨wide_zero z0, wide_zero w1, wide_zero w2, wide_zero w3⟩
theorem crc_turned (kind : UInt8) (c0 c1 c2 c3 t0 t1 t2 t3 : UInt8) (rest : List UInt8) (h : ¬ (t0 = 0 ∧ t1 = 0 ∧ t2 = 0 ∧ t3 = 0)) : crcOf kind ((c0 ^^^ t0) :: (c1 ^^^ t1) :: (c2 ^^^ t2) :: (c3 ^^^ t3) :: rest) ≠ crcOf kind (c0 :: c1 :: c2 :: c3 :: rest) := by
  intro he
  rw [crcOf_eq, crcOf_eq] at he
  have he := BitVec.not_inj.1 he
  rw [show kind :: (c0 ^^^ t0) :: (c1 ^^^ t1) :: (c2 ^^^ t2) :: (c3 ^^^ t3) :: rest = [kind] ++ ([c0 ^^^ t0, c1 ^^^ t1, c2 ^^^ t2, c3 ^^^ t3] ++ rest) from rfl, show kind :: c0 :: c1 :: c2 :: c3 :: rest = [kind] ++ ([c0, c1, c2, c3] ++ rest) from rfl, List.foldl_append, List.foldl_append, List.foldl_append, List.foldl_append] at he
  exact h (crcFour _ _ _ _ _ _ _ _ _ (crcFold_inj rest he))
end Go.Sl
