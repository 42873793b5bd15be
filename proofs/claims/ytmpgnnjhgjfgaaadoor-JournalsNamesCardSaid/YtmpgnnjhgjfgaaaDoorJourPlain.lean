/- Journals in plain lists: how records are written, how bytes are read, and that what was written is read back, whole and cut: definitions and plain lemmas. -/
import Derived.Test.YtmpgnnjhgjfgaaaDoorCrc
namespace Go.Sl
def gapOf (p : Nat) : Nat := if 128 - p % 128 ≤ 7 then 128 - p % 128 else 0
theorem gapOf_le (p : Nat) : gapOf p ≤ 7 := by unfold gapOf; split <;> omega
theorem room_pos (p : Nat) : 8 ≤ 128 - (p + gapOf p) % 128 ∧ (p + gapOf p) % 128 < 128 := by unfold gapOf; split <;> omega
theorem gapOf_gap (p : Nat) : gapOf (p + gapOf p) = 0 := by
  have := room_pos p
  generalize p + gapOf p = q at *
  unfold gapOf; rw [if_neg (by omega)]
def zeros (n : Nat) : List UInt8 := List.replicate n 0
/-- a number in four bytes -/
def four (n : Nat) : List UInt8 := [UInt8.ofNat (n / 16777216), UInt8.ofNat (n / 65536), UInt8.ofNat (n / 256), UInt8.ofNat n]
def four4 (a b c d : UInt8) : Nat := a.toNat * 16777216 + b.toNat * 65536 + c.toNat * 256 + d.toNat
theorem four4_four (n : Nat) (h : n < 4294967296) : four4 (UInt8.ofNat (n / 16777216)) (UInt8.ofNat (n / 65536)) (UInt8.ofNat (n / 256)) (UInt8.ofNat n) = n := by
  unfold four4
  simp only [UInt8.toNat_ofNat']
  omega
def headB (kind : UInt8) (p : List UInt8) : List UInt8 := four (crcOf kind p).toNat ++ [UInt8.ofNat (p.length / 256), UInt8.ofNat p.length, kind]
theorem headB_length (kind : UInt8) (p : List UInt8) : (headB kind p).length = 7 := rfl
def partB (kind : UInt8) (p : List UInt8) : List UInt8 := headB kind p ++ p
theorem partB_length (kind : UInt8) (p : List UInt8) : (partB kind p).length = 7 + p.length := by simp [partB, headB_length]
/-- how many bytes of a record go into the part at a place (behind the gap) -/
def fits (p : Nat) (r : List UInt8) : Nat := min r.length (128 - (p + gapOf p) % 128 - 7)
theorem fits_le (p : Nat) (r : List UInt8) : fits p r ≤ r.length := Nat.min_le_left _ _
theorem fits_room (p : Nat) (r : List UInt8) : fits p r ≤ 121 := by have := room_pos p; unfold fits; omega
theorem fits_pos (p : Nat) (r : List UInt8) (h : 0 < r.length) : 0 < fits p r := by have := room_pos p; unfold fits; omega
def kindOf (first whole : Bool) : UInt8 := if whole then (if first then 1 else 4) else (if first then 2 else 3)
/-- a record from a place on: its parts -/
def writ (p : Nat) (first : Bool) (r : List UInt8) : List UInt8 :=
  zeros (gapOf p) ++ (partB (kindOf first (decide (fits p r = r.length))) (r.take (fits p r)) ++
    (if _h : fits p r = r.length then [] else writ (p + gapOf p + 7 + fits p r) false (r.drop (fits p r))))
termination_by r.length
decreasing_by
  have := fits_le p r
  have h0 : 0 < r.length := by
    rcases Nat.eq_zero_or_pos r.length with h0 | h0
    · omega
    · exact h0
  have := fits_pos p r h0
  simp only [List.length_drop]; omega
/-- what a part at a place (behind the gap) reads as: its kind, its bytes, where it ends -/
def partAt (b : List UInt8) (p : Nat) : Option (UInt8 × List UInt8 × Nat) :=
  match b.drop p with
  | a0 :: a1 :: a2 :: a3 :: l1 :: l0 :: kind :: rest =>
    if (128 - (p + 7) % 128 < l1.toNat * 256 + l0.toNat ∧ 0 < l1.toNat * 256 + l0.toNat) ∨ rest.length < l1.toNat * 256 + l0.toNat ∨ (crcOf kind (rest.take (l1.toNat * 256 + l0.toNat))).toNat ≠ four4 a0 a1 a2 a3 then none
    else some (kind, rest.take (l1.toNat * 256 + l0.toNat), p + 7 + (l1.toNat * 256 + l0.toNat))
  | _ => none
theorem partAt_lt {b : List UInt8} {p : Nat} {q : UInt8 × List UInt8 × Nat} (h : partAt b p = some q) : p + 7 ≤ q.2.2 ∧ q.2.2 ≤ b.length := by
  unfold partAt at h
  split at h
  · rename_i a0 a1 a2 a3 l1 l0 kind rest hd
    split at h
    · cases h
    · rename_i hc
      injection h with h
      subst h
      have hl := congrArg List.length hd
      simp only [List.length_drop, List.length_cons] at hl
      simp only [not_or] at hc
      exact ⟨Nat.le_add_right _ _, by show p + 7 + _ ≤ _; omega⟩
  · cases h
def fitKind (begun : Bool) (kind : UInt8) : Bool := if begun then (kind == 3 || kind == 4) else (kind == 1 || kind == 2)
def goesOn (kind : UInt8) : Bool := kind == 2 || kind == 3
/-- the records from a place on, and where the last one ends -/
def readFrom (b : List UInt8) (p : Nat) (begun : Bool) (record : List UInt8) (last : Nat) : List (List UInt8) × Nat :=
  match _h : partAt b (p + gapOf p) with
  | none => ([], last)
  | some q =>
    if fitKind begun q.1 then
      if goesOn q.1 then readFrom b q.2.2 true (record ++ q.2.1) last
      else ((record ++ q.2.1) :: (readFrom b q.2.2 false [] q.2.2).1, (readFrom b q.2.2 false [] q.2.2).2)
    else ([], last)
termination_by b.length - p
decreasing_by
  all_goals (have := partAt_lt _h; omega)
def readAll (b : List UInt8) : List (List UInt8) × Nat := readFrom b 0 false [] 0
theorem readFrom_none {b : List UInt8} {p : Nat} {begun : Bool} {record : List UInt8} {last : Nat} (h : partAt b (p + gapOf p) = none) : readFrom b p begun record last = ([], last) := by
  rw [readFrom]
  split
  · rfl
  · rename_i q hq; rw [h] at hq; cases hq
theorem readFrom_unfit {b : List UInt8} {p : Nat} {begun : Bool} {record : List UInt8} {last : Nat} {q : UInt8 × List UInt8 × Nat} (h : partAt b (p + gapOf p) = some q) (hk : fitKind begun q.1 = false) : readFrom b p begun record last = ([], last) := by
  rw [readFrom]
  split
  · rfl
  · rename_i q' hq; rw [h] at hq; cases hq; rw [hk]; rfl
theorem readFrom_on {b : List UInt8} {p : Nat} {begun : Bool} {record : List UInt8} {last : Nat} {q : UInt8 × List UInt8 × Nat} (h : partAt b (p + gapOf p) = some q) (hk : fitKind begun q.1 = true) (hg : goesOn q.1 = true) :
    readFrom b p begun record last = readFrom b q.2.2 true (record ++ q.2.1) last := by
  rw [readFrom]
  split
  · rename_i hq; rw [h] at hq; cases hq
  · rename_i q' hq; rw [h] at hq; cases hq; rw [hk, hg]; rfl
theorem readFrom_whole {b : List UInt8} {p : Nat} {begun : Bool} {record : List UInt8} {last : Nat} {q : UInt8 × List UInt8 × Nat} (h : partAt b (p + gapOf p) = some q) (hk : fitKind begun q.1 = true) (hg : goesOn q.1 = false) :
    readFrom b p begun record last = ((record ++ q.2.1) :: (readFrom b q.2.2 false [] q.2.2).1, (readFrom b q.2.2 false [] q.2.2).2) := by
  rw [readFrom]
  split
  · rename_i hq; rw [h] at hq; cases hq
  · rename_i q' hq; rw [h] at hq; cases hq; rw [hk, hg]; rfl
/-- A part that was written is read. -/
theorem partAt_part (a c : List UInt8) (kind : UInt8) (p : List UInt8) (h1 : p.length ≤ 121) (h2 : p.length ≤ 128 - (a.length + 7) % 128 ∨ p.length = 0) : partAt (a ++ (partB kind p ++ c)) a.length = some (kind, p, a.length + 7 + p.length) := by
  have hl : (UInt8.ofNat (p.length / 256)).toNat * 256 + (UInt8.ofNat p.length).toNat = p.length := by
    simp only [UInt8.toNat_ofNat']; omega
  have e : (a ++ (partB kind p ++ c)).drop a.length = UInt8.ofNat ((crcOf kind p).toNat / 16777216) :: UInt8.ofNat ((crcOf kind p).toNat / 65536) :: UInt8.ofNat ((crcOf kind p).toNat / 256) :: UInt8.ofNat (crcOf kind p).toNat :: UInt8.ofNat (p.length / 256) :: UInt8.ofNat p.length :: kind :: (p ++ c) := by
    rw [List.drop_left]; simp [partB, headB, four]
  unfold partAt
  rw [e]
  simp only [hl, List.take_left, four4_four _ (crcOf kind p).isLt]
  rw [if_neg]
  simp only [not_or, List.length_append]
  exact ⟨by omega, by omega, by simp⟩
/-- A part that is not there whole is not read. -/
theorem partAt_cut (a t c : List UInt8) (kind : UInt8) (p : List UInt8) (h1 : p.length ≤ 121) (ht : t ++ c = partB kind p) (hc : c ≠ []) : partAt (a ++ t) a.length = none := by
  have hlt : t.length < 7 + p.length := by
    have := congrArg List.length ht
    rw [partB_length, List.length_append] at this
    have : 0 < c.length := List.length_pos_iff.2 hc
    omega
  unfold partAt
  rw [List.drop_left]
  split
  · rename_i a0 a1 a2 a3 l1 l0 k rest
    have e : a0 :: a1 :: a2 :: a3 :: l1 :: l0 :: k :: (rest ++ c) = UInt8.ofNat ((crcOf kind p).toNat / 16777216) :: UInt8.ofNat ((crcOf kind p).toNat / 65536) :: UInt8.ofNat ((crcOf kind p).toNat / 256) :: UInt8.ofNat (crcOf kind p).toNat :: UInt8.ofNat (p.length / 256) :: UInt8.ofNat p.length :: kind :: p := by
      simpa [partB, headB, four] using ht
    simp only [List.cons.injEq] at e
    obtain ⟨_, _, _, _, e1, e0, _, er⟩ := e
    have hl : l1.toNat * 256 + l0.toNat = p.length := by
      rw [e1, e0]; simp only [UInt8.toNat_ofNat']; omega
    simp only [List.length_cons] at hlt
    rw [if_pos (.inr (.inl (by omega)))]
  · rfl
theorem fitKind_of (first whole : Bool) : fitKind (!first) (kindOf first whole) = true := by cases first <;> cases whole <;> decide
theorem goesOn_of (first whole : Bool) : goesOn (kindOf first whole) = !whole := by cases first <;> cases whole <;> decide
theorem writ_eq (p : Nat) (first : Bool) (r : List UInt8) : writ p first r = zeros (gapOf p) ++ (partB (kindOf first (decide (fits p r = r.length))) (r.take (fits p r)) ++
    (if fits p r = r.length then [] else writ (p + gapOf p + 7 + fits p r) false (r.drop (fits p r)))) := by
  rw [writ]; split <;> rfl
theorem length_take_fits (p : Nat) (r : List UInt8) : (r.take (fits p r)).length = fits p r := by rw [List.length_take]; exact Nat.min_eq_left (fits_le p r)
theorem fits_room2 (p : Nat) (r : List UInt8) : fits p r ≤ 128 - (p + gapOf p + 7) % 128 ∨ fits p r = 0 := by
  have := room_pos p
  unfold fits
  omega
/-- What was written is read back; reading goes on behind it. -/
theorem readFrom_writ (n : Nat) : ∀ (a c : List UInt8) (first : Bool) (r record : List UInt8) (last : Nat), r.length ≤ n →
    readFrom (a ++ (writ a.length first r ++ c)) a.length (!first) record last =
      ((record ++ r) :: (readFrom (a ++ (writ a.length first r ++ c)) (a.length + (writ a.length first r).length) false [] (a.length + (writ a.length first r).length)).1,
        (readFrom (a ++ (writ a.length first r ++ c)) (a.length + (writ a.length first r).length) false [] (a.length + (writ a.length first r).length)).2) := by
  induction n with
  | zero =>
    intro a c first r record last hn
    have hr : r = [] := List.eq_nil_of_length_eq_zero (by omega)
    subst hr
    have hf : fits a.length [] = 0 := by simp [fits]
    have hw : writ a.length first [] = zeros (gapOf a.length) ++ partB (kindOf first true) [] := by rw [writ_eq, hf]; simp
    have hp := partAt_part (a ++ zeros (gapOf a.length)) c (kindOf first true) [] (by simp) (.inr rfl)
    have he : a ++ zeros (gapOf a.length) ++ (partB (kindOf first true) [] ++ c) = a ++ (writ a.length first [] ++ c) := by rw [hw]; simp
    have hl : (a ++ zeros (gapOf a.length)).length = a.length + gapOf a.length := by simp [zeros]
    rw [he, hl] at hp
    rw [readFrom_whole hp (fitKind_of first true) (by rw [goesOn_of]; rfl)]
    have : a.length + gapOf a.length + 7 + ([] : List UInt8).length = a.length + (writ a.length first []).length := by rw [hw]; simp [zeros, partB_length]; omega
    simp only [this]
  | succ n ih =>
    intro a c first r record last hn
    have hp := partAt_part (a ++ zeros (gapOf a.length)) ((if fits a.length r = r.length then [] else writ (a.length + gapOf a.length + 7 + fits a.length r) false (r.drop (fits a.length r))) ++ c) (kindOf first (decide (fits a.length r = r.length))) (r.take (fits a.length r)) (by rw [length_take_fits]; exact fits_room _ _) (by
      rw [length_take_fits]; simp only [zeros, List.length_append, List.length_replicate]; exact fits_room2 _ _)
    have he : a ++ zeros (gapOf a.length) ++ (partB (kindOf first (decide (fits a.length r = r.length))) (r.take (fits a.length r)) ++ ((if fits a.length r = r.length then [] else writ (a.length + gapOf a.length + 7 + fits a.length r) false (r.drop (fits a.length r))) ++ c)) = a ++ (writ a.length first r ++ c) := by
      conv => rhs; rw [writ_eq]
      simp only [List.append_assoc]
    have hl : (a ++ zeros (gapOf a.length)).length = a.length + gapOf a.length := by simp [zeros]
    rw [he, hl, length_take_fits] at hp
    by_cases hf : fits a.length r = r.length
    · have hwl : (writ a.length first r).length = gapOf a.length + 7 + fits a.length r := by
        rw [writ_eq, if_pos hf]; simp [zeros, partB_length, fits_le]; omega
      rw [readFrom_whole hp (fitKind_of _ _) (by rw [goesOn_of, decide_eq_true hf]; rfl)]
      have e1 : a.length + gapOf a.length + 7 + fits a.length r = a.length + (writ a.length first r).length := by omega
      have e2 : r.take (fits a.length r) = r := by rw [hf]; exact List.take_length
      simp only [e1, e2]
    · rw [readFrom_on hp (fitKind_of _ _) (by rw [goesOn_of, decide_eq_false hf]; rfl)]
      -- the rest, from the next part on
      have hpos : 0 < r.length := by
        rcases Nat.eq_zero_or_pos r.length with h0 | h0
        · have := fits_le a.length r; omega
        · exact h0
      have hfp := fits_pos a.length r hpos
      have hfl := fits_le a.length r
      have ih' := ih (a ++ (zeros (gapOf a.length) ++ partB (kindOf first false) (r.take (fits a.length r)))) c false (r.drop (fits a.length r)) (record ++ r.take (fits a.length r)) last (by simp only [List.length_drop]; omega)
      have hal : (a ++ (zeros (gapOf a.length) ++ partB (kindOf first false) (r.take (fits a.length r)))).length = a.length + gapOf a.length + 7 + fits a.length r := by
        simp [zeros, partB_length, hfl]; omega
      have hw : writ a.length first r = zeros (gapOf a.length) ++ (partB (kindOf first false) (r.take (fits a.length r)) ++ writ (a.length + gapOf a.length + 7 + fits a.length r) false (r.drop (fits a.length r))) := by
        rw [writ_eq, if_neg hf, decide_eq_false hf]
      rw [hal] at ih'
      have hb : a ++ (zeros (gapOf a.length) ++ partB (kindOf first false) (r.take (fits a.length r))) ++ (writ (a.length + gapOf a.length + 7 + fits a.length r) false (r.drop (fits a.length r)) ++ c) = a ++ (writ a.length first r ++ c) := by rw [hw]; simp only [List.append_assoc]
      rw [hb] at ih'
      simp only [Bool.not_false] at ih'
      rw [ih']
      have hend : a.length + gapOf a.length + 7 + fits a.length r + (writ (a.length + gapOf a.length + 7 + fits a.length r) false (r.drop (fits a.length r))).length = a.length + (writ a.length first r).length := by
        rw [hw]; simp [zeros, partB_length, hfl]; omega
      rw [hend, List.append_assoc, List.take_append_drop]
theorem partAt_end {b : List UInt8} {p : Nat} (h : b.length ≤ p) : partAt b p = none := by
  unfold partAt; rw [List.drop_eq_nil_of_le h]
theorem partAt_short (a t c : List UInt8) (g : Nat) (kind : UInt8) (p : List UInt8) (h1 : p.length ≤ 121) (ht : t ++ c = zeros g ++ partB kind p) (hc : c ≠ []) : partAt (a ++ t) (a.length + g) = none := by
  have hz : (zeros g).length = g := by simp [zeros]
  rcases Nat.lt_or_ge g t.length with h | h
  · have e : t = zeros g ++ t.drop g := by
      have := congrArg (List.take g) ht
      rw [List.take_append_of_le_length (by omega), List.take_left' hz] at this
      conv => lhs; rw [← List.take_append_drop g t, this]
    have ht2 : t.drop g ++ c = partB kind p := by
      have := congrArg (List.drop g) ht
      rw [List.drop_append_of_le_length (by omega), List.drop_left' hz] at this
      exact this
    have := partAt_cut (a ++ zeros g) (t.drop g) c kind p h1 ht2 hc
    rw [List.append_assoc, ← e, List.length_append, hz] at this
    exact this
  · exact partAt_end (by rw [List.length_append]; omega)
/-- .. and what was cut off is not. -/
theorem readFrom_cut (a t c : List UInt8) (first : Bool) (r record : List UInt8) (last : Nat) (ht : t ++ c = writ a.length first r) (hc : c ≠ []) :
    readFrom (a ++ t) a.length (!first) record last = ([], last) := by
  have hcl : 0 < c.length := List.length_pos_iff.2 hc
  have hfl := fits_le a.length r
  have hz : (zeros (gapOf a.length)).length = gapOf a.length := by simp [zeros]
  have hpl : (partB (kindOf first (decide (fits a.length r = r.length))) (r.take (fits a.length r))).length = 7 + fits a.length r := by rw [partB_length, length_take_fits]
  have hw := writ_eq a.length first r
  rw [← List.append_assoc] at hw
  have hgl : (zeros (gapOf a.length) ++ partB (kindOf first (decide (fits a.length r = r.length))) (r.take (fits a.length r))).length = gapOf a.length + 7 + fits a.length r := by rw [List.length_append, hz, hpl]; omega
  by_cases hlen : t.length < gapOf a.length + 7 + fits a.length r
  · refine readFrom_none (partAt_short a t (c.take (gapOf a.length + 7 + fits a.length r - t.length)) (gapOf a.length) (kindOf first (decide (fits a.length r = r.length))) (r.take (fits a.length r)) (by rw [length_take_fits]; exact fits_room _ _) ?_ ?_)
    · have e := congrArg (List.take (gapOf a.length + 7 + fits a.length r)) ht
      rw [hw, List.take_left' hgl, List.take_append, List.take_of_length_le (Nat.le_of_lt hlen)] at e
      exact e
    · intro e
      have := congrArg List.length e
      rw [List.length_take, List.length_nil] at this
      omega
  · have hf : ¬ fits a.length r = r.length := fun hf => by
      have := congrArg List.length ht
      rw [hw, if_pos hf, List.append_nil, hgl, List.length_append] at this
      omega
    have hpos : 0 < r.length := by
      rcases Nat.eq_zero_or_pos r.length with h0 | h0
      · omega
      · exact h0
    have hfp := fits_pos a.length r hpos
    rw [if_neg hf] at hw
    rw [hw] at ht
    have e1 : t = (zeros (gapOf a.length) ++ partB (kindOf first (decide (fits a.length r = r.length))) (r.take (fits a.length r))) ++ t.drop (gapOf a.length + 7 + fits a.length r) := by
      have := congrArg (List.take (gapOf a.length + 7 + fits a.length r)) ht
      rw [List.take_left' hgl, List.take_append_of_le_length (by omega)] at this
      conv => lhs; rw [← List.take_append_drop (gapOf a.length + 7 + fits a.length r) t, this]
    have e2 : t.drop (gapOf a.length + 7 + fits a.length r) ++ c = writ (a.length + gapOf a.length + 7 + fits a.length r) false (r.drop (fits a.length r)) := by
      have := congrArg (List.drop (gapOf a.length + 7 + fits a.length r)) ht
      rw [List.drop_left' hgl, List.drop_append_of_le_length (by omega)] at this
      exact this
    generalize ht2 : t.drop (gapOf a.length + 7 + fits a.length r) = t2 at e1 e2
    have hp := partAt_part (a ++ zeros (gapOf a.length)) t2 (kindOf first (decide (fits a.length r = r.length))) (r.take (fits a.length r)) (by rw [length_take_fits]; exact fits_room _ _) (by
      rw [length_take_fits, List.length_append, hz]; exact fits_room2 _ _)
    have hb : a ++ zeros (gapOf a.length) ++ (partB (kindOf first (decide (fits a.length r = r.length))) (r.take (fits a.length r)) ++ t2) = a ++ t := by rw [e1]; simp only [List.append_assoc]
    rw [hb, List.length_append, hz, length_take_fits] at hp
    rw [readFrom_on hp (fitKind_of _ _) (by rw [goesOn_of, decide_eq_false hf]; rfl)]
    have hal : (a ++ (zeros (gapOf a.length) ++ partB (kindOf first (decide (fits a.length r = r.length))) (r.take (fits a.length r)))).length = a.length + gapOf a.length + 7 + fits a.length r := by
      rw [List.length_append, hgl]; omega
    have ih := readFrom_cut (a ++ (zeros (gapOf a.length) ++ partB (kindOf first (decide (fits a.length r = r.length))) (r.take (fits a.length r)))) t2 c false (r.drop (fits a.length r)) (record ++ r.take (fits a.length r)) last (by rw [hal]; exact e2) hc
    rw [hal, List.append_assoc, ← e1] at ih
    exact ih
termination_by r.length
decreasing_by simp only [List.length_drop]; omega
/-! ### A journal -/
def journal (a : List UInt8) (l : List (List UInt8)) : List UInt8 := l.foldl (fun b r => b ++ writ b.length true r) a
theorem journal_cons (a r : List UInt8) (l : List (List UInt8)) : journal a (r :: l) = journal (a ++ writ a.length true r) l := rfl
theorem journal_snoc (a r : List UInt8) (l : List (List UInt8)) : journal a (l ++ [r]) = journal a l ++ writ (journal a l).length true r := by simp [journal]
theorem journal_append (a : List UInt8) (l m : List (List UInt8)) : journal a (l ++ m) = journal (journal a l) m := by simp [journal]
theorem journal_tail : ∀ (l : List (List UInt8)) (a : List UInt8), ∃ t, journal a l = a ++ t
  | [], a => ⟨[], by simp [journal]⟩
  | r :: l, a => by
    obtain ⟨t, ht⟩ := journal_tail l (a ++ writ a.length true r)
    exact ⟨writ a.length true r ++ t, by rw [journal_cons, ht, List.append_assoc]⟩
theorem readFrom_journal : ∀ (l : List (List UInt8)) (a c : List UInt8), 
    readFrom (journal a l ++ c) a.length false [] a.length = (l ++ (readFrom (journal a l ++ c) (journal a l).length false [] (journal a l).length).1, (readFrom (journal a l ++ c) (journal a l).length false [] (journal a l).length).2)
  | [], a, c => rfl
  | r :: l, a, c => by
    have ih := readFrom_journal l (a ++ writ a.length true r) c
    obtain ⟨t, ht⟩ := journal_tail l (a ++ writ a.length true r)
    rw [journal_cons]
    have hw := readFrom_writ r.length a (t ++ c) true r [] a.length (Nat.le_refl _)
    have e : a ++ (writ a.length true r ++ (t ++ c)) = journal (a ++ writ a.length true r) l ++ c := by rw [ht]; simp only [List.append_assoc]
    rw [e] at hw
    simp only [Bool.not_true, List.nil_append] at hw
    rw [hw]
    rw [List.length_append] at ih
    rw [ih]
    simp
theorem readAll_journal (l : List (List UInt8)) : readAll (journal [] l) = (l, (journal [] l).length) := by
  have h := readFrom_journal l [] []
  rw [List.append_nil] at h
  rw [readFrom_none (p := (journal [] l).length) (partAt_end (Nat.le_add_right _ _))] at h
  simpa [readAll] using h
/-- Of a journal and something more, from which no record reads. -/
theorem readAll_then (l : List (List UInt8)) (c : List UInt8) (h : (readFrom (journal [] l ++ c) (journal [] l).length false [] (journal [] l).length) = ([], (journal [] l).length)) : readAll (journal [] l ++ c) = (l, (journal [] l).length) := by
  have h2 := readFrom_journal l [] c
  rw [h] at h2
  simpa [readAll] using h2
theorem readAll_cut (l : List (List UInt8)) (r t c : List UInt8) (ht : t ++ c = writ (journal [] l).length true r) (hc : c ≠ []) : readAll (journal [] l ++ t) = (l, (journal [] l).length) :=
  readAll_then l t (readFrom_cut (journal [] l) t c true r [] _ ht hc)
/-- how many records have all their bytes within the first k -/
def wholeOf (k : Nat) (l : List (List UInt8)) : Nat := go 0 l
where go (i : Nat) : List (List UInt8) → Nat
  | [] => i
  | _r :: m => if (journal [] (l.take (i + 1))).length ≤ k then go (i + 1) m else i
theorem journal_mono (l : List (List UInt8)) {i j : Nat} (h : i ≤ j) : (journal [] (l.take i)).length ≤ (journal [] (l.take j)).length := by
  have e : l.take j = l.take i ++ (l.take j).drop i := by
    conv => lhs; rw [← List.take_append_drop i (l.take j), List.take_take, Nat.min_eq_left h]
  rw [e, journal_append]
  obtain ⟨t, ht⟩ := journal_tail ((l.take j).drop i) (journal [] (l.take i))
  rw [ht, List.length_append]; omega
theorem readAll_take (l : List (List UInt8)) (k : Nat) (i : Nat) (hi : i < l.length) (h1 : (journal [] (l.take i)).length ≤ k) (h2 : k < (journal [] (l.take (i + 1))).length) : readAll ((journal [] l).take k) = (l.take i, (journal [] (l.take i)).length) := by
  have e : l.take (i + 1) = l.take i ++ [l[i]] := (List.take_succ_eq_append_getElem hi)
  have e2 : journal [] (l.take (i + 1)) = journal [] (l.take i) ++ writ (journal [] (l.take i)).length true l[i] := by rw [e, journal_snoc]
  obtain ⟨t, ht⟩ := journal_tail (l.drop (i + 1)) (journal [] (l.take (i + 1)))
  have e3 : journal [] l = journal [] (l.take (i + 1)) ++ t := by rw [← ht, ← journal_append, List.take_append_drop]
  have hk : k = (journal [] (l.take i)).length + (k - (journal [] (l.take i)).length) := by omega
  have hwl : (writ (journal [] (l.take i)).length true l[i]).length = (journal [] (l.take (i + 1))).length - (journal [] (l.take i)).length := by rw [e2, List.length_append]; omega
  have e4 : (journal [] l).take k = journal [] (l.take i) ++ (writ (journal [] (l.take i)).length true l[i]).take (k - (journal [] (l.take i)).length) := by
    rw [e3, e2, List.append_assoc, List.take_append, List.take_of_length_le h1, List.take_append_of_le_length (by omega)]
  rw [e4]
  refine readAll_cut (l.take i) l[i] _ ((writ (journal [] (l.take i)).length true l[i]).drop (k - (journal [] (l.take i)).length)) (List.take_append_drop _ _) fun e => ?_
  have := congrArg List.length e
  rw [List.length_drop, List.length_nil] at this
  omega
end Go.Sl
