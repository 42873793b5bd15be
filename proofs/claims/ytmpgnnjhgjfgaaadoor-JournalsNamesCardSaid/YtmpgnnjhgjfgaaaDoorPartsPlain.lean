/- The parts of a record, one after the other, in plain lists: plain definitions and lemmas. -/
import Derived.Test.YtmpgnnjhgjfgaaaDoorInts
import Derived.Test.YtmpgnnjhgjfgaaaDoorRangeFn
namespace Go.Proofs.YtmpgnnjhgjfgaaaDoor
open Go.RowKit Go.Sl
/-- A part as the iterator hands it over: its kind, where its bytes lie, its bytes, and how many bytes are skipped ahead of it. -/
structure Pt where
  kind : UInt8
  at_ : Option Addr
  n : Nat
  cap : Nat
  piece : List UInt8
  gap : Nat
def Pt.out (x : Pt) : List UInt8 := zeros x.gap ++ partB x.kind x.piece
def Pt.vals (x : Pt) : Array Value := #[.int .u8 (x.kind.toNat : Int), .slice x.at_ x.n x.cap]
def emits (l : List Pt) : List UInt8 := l.flatMap Pt.out
theorem emits_nil : emits [] = [] := rfl
theorem emits_snoc (l : List Pt) (x : Pt) : emits (l ++ [x]) = emits l ++ x.out := by simp [emits]
/-- what is still to come -/
def toCome (p : Nat) (begun : Bool) (r : List UInt8) : List UInt8 := if begun && r.isEmpty then [] else writ p (!begun) r
theorem toCome_start (p : Nat) (r : List UInt8) : toCome p false r = writ p true r := rfl
theorem toCome_end (p : Nat) : toCome p true [] = [] := rfl
theorem toCome_step (p : Nat) (begun : Bool) (r : List UInt8) (h : begun = false ∨ 0 < r.length) :
    toCome p begun r = zeros (gapOf p) ++ partB (kindOf (!begun) (decide (fits p r = r.length))) (r.take (fits p r)) ++ toCome (p + gapOf p + 7 + fits p r) true (r.drop (fits p r)) := by
  have e : toCome p begun r = writ p (!begun) r := by
    unfold toCome
    rw [if_neg]
    intro hb
    simp only [Bool.and_eq_true, List.isEmpty_iff] at hb
    rcases h with h | h
    · rw [h] at hb; cases hb.1
    · rw [hb.2] at h; simp at h
  rw [e, writ_eq, List.append_assoc]
  congr 2
  have hl := fits_le p r
  by_cases hf : fits p r = r.length
  · rw [if_pos hf, hf, List.drop_length]; rfl
  · rw [if_neg hf]
    unfold toCome
    rw [if_neg]
    · rfl
    · intro hb
      simp only [Bool.true_and, List.isEmpty_iff] at hb
      have := congrArg List.length hb
      rw [List.length_drop, List.length_nil] at this
      omega
theorem length_writ_le : ∀ (n : Nat) (p : Nat) (first : Bool) (r : List UInt8), r.length ≤ n → (writ p first r).length ≤ 15 * r.length + 14
  | 0, p, first, r, h => by
    have hr : r = [] := List.eq_nil_of_length_eq_zero (by omega)
    subst hr
    have hf : fits p [] = 0 := by simp [fits]
    have := gapOf_le p
    rw [writ_eq, hf]
    simp [zeros, partB_length]; omega
  | n + 1, p, first, r, h => by
    have hg := gapOf_le p
    have hl := fits_le p r
    rw [writ_eq]
    by_cases hf : fits p r = r.length
    · rw [if_pos hf]
      simp [zeros, partB_length]; omega
    · rw [if_neg hf]
      have hp := fits_pos p r (by omega)
      have ih := length_writ_le n (p + gapOf p + 7 + fits p r) false (r.drop (fits p r)) (by rw [List.length_drop]; omega)
      rw [List.length_drop] at ih
      simp only [List.length_append, zeros, List.length_replicate, partB_length, length_take_fits]
      omega
theorem writ_length_le (p : Nat) (r : List UInt8) : (writ p true r).length ≤ 15 * r.length + 14 := length_writ_le r.length p true r (Nat.le_refl _)
/-- What may come next. -/
structure Next (G : Asn) (p : Nat) (rec : List UInt8) (pre : List Pt) (x : Pt) : Prop where
  reads : Reads G x.at_ x.n (u8s x.piece)
  len : x.piece.length = x.n
  cap : x.n ≤ x.cap
  gap : x.gap = gapOf (p + (emits pre).length)
  small : x.n ≤ 121
  tail : ∃ rest, writ p true rec = emits pre ++ (x.out ++ rest)
theorem Next.length {G : Asn} {p : Nat} {rec : List UInt8} {pre : List Pt} {x : Pt} (h : Next G p rec pre x) : (emits pre).length + x.gap + 7 + x.n ≤ 15 * rec.length + 14 := by
  obtain ⟨rest, e⟩ := h.tail
  have h1 := writ_length_le p rec
  rw [e] at h1
  simp only [List.length_append, Pt.out, zeros, List.length_replicate, partB_length, h.len] at h1
  omega
end Go.Proofs.YtmpgnnjhgjfgaaaDoor
