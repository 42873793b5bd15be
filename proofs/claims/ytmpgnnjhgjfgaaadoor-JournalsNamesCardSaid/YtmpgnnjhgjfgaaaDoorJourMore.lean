/- Journals in plain lists, more: how long a record is when it is written, what a turned part reads as, and the plain laws that the statements end in: definitions and plain lemmas. -/
import Derived.Test.YtmpgnnjhgjfgaaaDoorJourPlain
namespace Go.Sl
theorem writ_len (p : Nat) (first : Bool) (r : List UInt8) : (writ p first r).length = gapOf p + (7 + fits p r) + (if fits p r = r.length then 0 else (writ (p + gapOf p + 7 + fits p r) false (r.drop (fits p r))).length) := by
  rw [writ_eq]
  simp only [List.length_append, zeros, List.length_replicate, partB_length, length_take_fits]
  split
  · rfl
  · omega
theorem fits_zeros (p n : Nat) : fits p (zeros n) = min n (128 - (p + gapOf p) % 128 - 7) := by simp [fits, zeros]
theorem writ_len_same (m : Nat) : ∀ (p : Nat) (f g : Bool) (r s : List UInt8), r.length ≤ m → r.length = s.length → (writ p f r).length = (writ p g s).length := by
  induction m with
  | zero =>
    intro p f g r s h e
    have hr : r = [] := List.eq_nil_of_length_eq_zero (by omega)
    have hs : s = [] := List.eq_nil_of_length_eq_zero (by omega)
    subst hr hs
    rw [writ_len, writ_len p g, if_pos (by simp [fits])]
  | succ m ih =>
    intro p f g r s h e
    have hf : fits p r = fits p s := by unfold fits; rw [e]
    rw [writ_len, writ_len p g, ← hf, ← e]
    congr 1
    split
    · rfl
    · rename_i hne
      have h0 : 0 < r.length := by
        rcases Nat.eq_zero_or_pos r.length with h0 | h0
        · have := fits_le p r; omega
        · exact h0
      have := fits_pos p r h0
      exact ih _ _ _ _ _ (by rw [List.length_drop]; omega) (by simp [e])
/-- so many bytes a record of n takes from a place on -/
def takes (p n : Nat) : Nat := (writ p true (zeros n)).length
theorem takes_of (p : Nat) (f : Bool) (r : List UInt8) : (writ p f r).length = takes p r.length := writ_len_same _ _ _ _ _ _ (Nat.le_refl _) (by simp [zeros])
theorem takes_step (p n : Nat) : takes p n = gapOf p + (7 + min n (128 - (p + gapOf p) % 128 - 7)) + (if min n (128 - (p + gapOf p) % 128 - 7) = n then 0 else takes (p + gapOf p + 7 + min n (128 - (p + gapOf p) % 128 - 7)) (n - min n (128 - (p + gapOf p) % 128 - 7))) := by
  unfold takes
  rw [writ_len, fits_zeros]
  have hz : (zeros n).length = n := by simp [zeros]
  rw [hz]
  congr 1
  split
  · rfl
  · exact writ_len_same _ _ _ _ _ _ (Nat.le_refl _) (by simp [zeros])
theorem takes_block (m : Nat) : ∀ (p n : Nat), n ≤ m → p % 128 = 0 → takes p n ≤ 2 * n + 7 := by
  induction m with
  | zero =>
    intro p n h hp
    have hn : n = 0 := by omega
    subst hn
    have : gapOf p = 0 := by unfold gapOf; split <;> omega
    rw [takes_step, this]; simp
  | succ m ih =>
    intro p n h hp
    have hg : gapOf p = 0 := by unfold gapOf; split <;> omega
    rw [takes_step, hg]
    simp only [Nat.add_zero, hp, Nat.zero_add, Nat.sub_zero]
    split
    · omega
    · have h1 : min n (128 - 7) = 121 := by omega
      rw [h1]
      have := ih (p + 7 + 121) (n - 121) (by omega) (by omega)
      omega
theorem takes_le (p n : Nat) : takes p n ≤ 2 * n + 21 := by
  have hr := room_pos p
  rw [takes_step]
  have hg := gapOf_le p
  split
  · omega
  · rename_i hne
    have h1 : min n (128 - (p + gapOf p) % 128 - 7) = 128 - (p + gapOf p) % 128 - 7 := by omega
    rw [h1]
    have := takes_block (n - (128 - (p + gapOf p) % 128 - 7)) (p + gapOf p + 7 + (128 - (p + gapOf p) % 128 - 7)) (n - (128 - (p + gapOf p) % 128 - 7)) (Nat.le_refl _) (by omega)
    omega
theorem takes_pos (p n : Nat) : 7 ≤ takes p n := by rw [takes_step]; omega
theorem writ_le (p : Nat) (f : Bool) (r : List UInt8) : (writ p f r).length ≤ 2 * r.length + 21 := by rw [takes_of]; exact takes_le _ _
theorem writ_pos (p : Nat) (f : Bool) (r : List UInt8) : 7 ≤ (writ p f r).length := by rw [takes_of]; exact takes_pos _ _
theorem journal_le : ∀ (l : List (List UInt8)) (a : List UInt8) (i : Nat), (journal a (l.take i)).length ≤ a.length + 21 * l.length + 2 * (l.map List.length).sum
  | [], a, i => by simp [journal]
  | r :: l, a, 0 => by simp [journal]; omega
  | r :: l, a, i + 1 => by
    rw [List.take_succ_cons, journal_cons]
    have h := journal_le l (a ++ writ a.length true r) i
    have h1 := writ_le a.length true r
    simp only [List.length_append, List.length_cons, List.map_cons, List.sum_cons] at h ⊢
    omega
/-- A part with other bytes, of another sum, is not read. -/
theorem partAt_wrong (a c : List UInt8) (kind : UInt8) (p q : List UInt8) (h1 : p.length ≤ 121) (hq : q.length = p.length) (hne : crcOf kind q ≠ crcOf kind p) : partAt (a ++ (headB kind p ++ (q ++ c))) a.length = none := by
  have hl : (UInt8.ofNat (p.length / 256)).toNat * 256 + (UInt8.ofNat p.length).toNat = p.length := by
    simp only [UInt8.toNat_ofNat']; omega
  have e : (a ++ (headB kind p ++ (q ++ c))).drop a.length = UInt8.ofNat ((crcOf kind p).toNat / 16777216) :: UInt8.ofNat ((crcOf kind p).toNat / 65536) :: UInt8.ofNat ((crcOf kind p).toNat / 256) :: UInt8.ofNat (crcOf kind p).toNat :: UInt8.ofNat (p.length / 256) :: UInt8.ofNat p.length :: kind :: (q ++ c) := by
    rw [List.drop_left]; simp [headB, four]
  unfold partAt
  rw [e]
  simp only [hl, four4_four _ (crcOf kind p).isLt]
  rw [if_pos]
  refine .inr (.inr fun hh => hne ?_)
  rw [← hq, List.take_left] at hh
  exact BitVec.eq_of_toNat_eq hh
/-- the four bytes from a place on, turned by four others -/
def turn4 (at_ : Nat) (t0 t1 t2 t3 : UInt8) (b : List UInt8) : List UInt8 :=
  b.take at_ ++ (match b.drop at_ with
    | c0 :: c1 :: c2 :: c3 :: rest => (c0 ^^^ t0) :: (c1 ^^^ t1) :: (c2 ^^^ t2) :: (c3 ^^^ t3) :: rest
    | l => l)
theorem readAll_turned (l m : List (List UInt8)) (r : List UInt8) (t0 t1 t2 t3 : UInt8) (h4 : 4 ≤ r.length) (hroom : 11 ≤ 128 - ((journal [] l).length + gapOf (journal [] l).length) % 128) (ht : ¬ (t0 = 0 ∧ t1 = 0 ∧ t2 = 0 ∧ t3 = 0)) :
    readAll (turn4 ((journal [] l).length + gapOf (journal [] l).length + 7) t0 t1 t2 t3 (journal [] (l ++ r :: m))) = (l, (journal [] l).length) := by
  obtain ⟨t, e⟩ := journal_tail m (journal [] (l ++ [r]))
  have e1 : journal [] (l ++ r :: m) = journal [] l ++ (writ (journal [] l).length true r ++ t) := by
    rw [show l ++ r :: m = (l ++ [r]) ++ m by simp, journal_append, e, journal_snoc, List.append_assoc]
  generalize hb : journal [] l = b at *
  obtain ⟨n, hn⟩ : ∃ n, fits b.length r = n := ⟨_, rfl⟩
  have hfit : 4 ≤ n := by rw [← hn]; unfold fits; omega
  have hn1 : n ≤ 121 := by rw [← hn]; exact fits_room _ _
  have hlen : (r.take n).length = n := by rw [← hn]; exact length_take_fits _ _
  obtain ⟨kind, hk⟩ : ∃ kind, kindOf true (decide (n = r.length)) = kind := ⟨_, rfl⟩
  obtain ⟨rest, hrest⟩ : ∃ rest, writ b.length true r ++ t = zeros (gapOf b.length) ++ (headB kind (r.take n) ++ (r.take n ++ rest)) := by
    rw [writ_eq, hn, hk]
    exact ⟨(if n = r.length then [] else writ (b.length + gapOf b.length + 7 + n) false (r.drop n)) ++ t, by simp only [partB, List.append_assoc]⟩
  obtain ⟨c0, c1, c2, c3, tl, htl⟩ : ∃ c0 c1 c2 c3 tl, r.take n = c0 :: c1 :: c2 :: c3 :: tl := by
    match hr : r.take n with
    | [] => rw [hr] at hlen; simp at hlen; omega
    | [_] => rw [hr] at hlen; simp at hlen; omega
    | [_, _] => rw [hr] at hlen; simp at hlen; omega
    | [_, _, _] => rw [hr] at hlen; simp at hlen; omega
    | c0 :: c1 :: c2 :: c3 :: tl => exact ⟨c0, c1, c2, c3, tl, rfl⟩
  have e2 : journal [] (l ++ r :: m) = (b ++ (zeros (gapOf b.length) ++ headB kind (r.take n))) ++ (c0 :: c1 :: c2 :: c3 :: (tl ++ rest)) := by
    rw [e1, hrest, ← List.cons_append, ← List.cons_append, ← List.cons_append, ← List.cons_append, ← htl]; simp only [List.append_assoc]
  have hl2 : (b ++ (zeros (gapOf b.length) ++ headB kind (r.take n))).length = b.length + gapOf b.length + 7 := by
    simp only [List.length_append, zeros, List.length_replicate, headB_length]; omega
  have e3 : turn4 (b.length + gapOf b.length + 7) t0 t1 t2 t3 (journal [] (l ++ r :: m)) = b ++ (zeros (gapOf b.length) ++ (headB kind (r.take n) ++ (((c0 ^^^ t0) :: (c1 ^^^ t1) :: (c2 ^^^ t2) :: (c3 ^^^ t3) :: tl) ++ rest))) := by
    unfold turn4
    rw [e2, ← hl2, List.take_left, List.drop_left]
    simp only [List.append_assoc, List.cons_append]
  rw [e3]
  have := readAll_then l (zeros (gapOf b.length) ++ (headB kind (r.take n) ++ (((c0 ^^^ t0) :: (c1 ^^^ t1) :: (c2 ^^^ t2) :: (c3 ^^^ t3) :: tl) ++ rest))) (by
    rw [hb]
    refine readFrom_none ?_
    have := partAt_wrong (b ++ zeros (gapOf b.length)) rest kind (r.take n) ((c0 ^^^ t0) :: (c1 ^^^ t1) :: (c2 ^^^ t2) :: (c3 ^^^ t3) :: tl) (by omega) (by rw [htl]; rfl) (by rw [htl]; exact crc_turned _ _ _ _ _ _ _ _ _ _ ht)
    rw [List.append_assoc] at this
    simpa [zeros] using this)
  rw [hb] at this
  exact this
end Go.Sl
