/- Arguments whose parts are walked through: plain lemmas. -/
import Derived.Test.YtkdiejbpleojnaaGreatDoorDecMay
import Derived.Deep.LoopGhost
namespace Go.Proofs.YtkdiejbpleojnaaGreatDoor
open Go.ChangeShapes Go.WideShapes Go.ChangeAt Go.RowKit Go.Sl Go.Deep
/-- These cells are a value of this type, in the arguments' world. -/
def Lies {H : Type} (enc : TypeId × Value → H) (W : World) (base : Nat) (held : Bool) (t : TypeId) (cs : List Value) : Prop := ∃ fuel x, DataW.trod enc Tryz.prog W base (fun _ => true) held fuel t cs = some x
section
variable {H : Type} {enc : TypeId × Value → H} {W : World} {base : Nat} {held : Bool}
theorem Lies.slice {t e : TypeId} {v : Value} (ht : Tryz.prog.underlying t = some (.slice e)) (h : Lies enc W base held t [v]) : ∃ a n c, v = .slice a n c := by
  obtain ⟨f, x, h⟩ := h
  exact any_slice ht h
/-- The cells of a slice's elements. -/
theorem Lies.cells {t e : TypeId} {q : Nat} (ht : Tryz.prog.underlying t = some (.slice e)) (hq : Tryz.prog.cellsOf e = q) (h0 : 0 < q) {a : Option Addr} {n c : Nat} (h : Lies enc W base held t [.slice a n c]) :
    ∃ L : List Value, Reads (just (hp W)) a (n * q) L ∧ n ≤ c ∧ c ≤ maxLen ∧ ∀ i, i < n → ∃ cs, cs.length = q ∧ Lies enc W base held e cs ∧ ∀ j, j < q → L[i * q + j]? = cs[j]? := by
  obtain ⟨fuel, x, hf⟩ := h
  rcases open_slice ht hf with ⟨h1, h2⟩ | ⟨a', n', c', m, k, D, Pl, h1, _, hl, hm, hmm, h2, h3⟩
  · simp at h1
    obtain ⟨rfl, rfl, rfl⟩ := h1
    exact ⟨[], by rw [Nat.zero_mul]; exact reads_nil, Nat.le_refl _, Nat.zero_le _, fun i hi => absurd hi (Nat.not_lt_zero _)⟩
  · simp at h1
    obtain ⟨rfl, rfl, rfl⟩ := h1
    have hlm := le_m hl hmm
    rw [hq] at h3
    have each : ∀ i, i < n → ∃ cs : List Value, cs.length = q ∧ Lies enc W base held e cs ∧ ∀ j v, cs[j]? = some v → W.cell? (a'.add (i * q + j)) = some v := fun i hi => by
      obtain ⟨cs, g1, g2⟩ := h3 i (by omega)
      obtain ⟨_, hlen, hcell⟩ := World.cells?_some g1
      refine ⟨cs, hlen, ⟨_, _, g2⟩, fun j v hv => ?_⟩
      have hj : j < q := by rw [← hlen]; exact (List.getElem?_eq_some_iff.1 hv).1
      have := hcell j hj
      rw [add_add] at this
      rw [this]
      exact hv
    have : Inhabited (List Value) := ⟨[]⟩
    obtain ⟨f, hfc⟩ := choose_lt each
    have hat : ∀ (i j : Nat), i < n → j < q → (((List.range n).map f).flatten)[i * q + j]? = (f i)[j]? := by
      have key : ∀ (l : List (List Value)) (i j : Nat), (∀ x ∈ l, x.length = q) → (hi : i < l.length) → j < q → l.flatten[i * q + j]? = l[i][j]? := by
        intro l
        induction l with
        | nil => intro i j _ hi; exact absurd hi (Nat.not_lt_zero _)
        | cons y l ih =>
          intro i j hx hi hj
          have hy := hx y (List.mem_cons_self ..)
          cases i with
          | zero => rw [List.flatten_cons, Nat.zero_mul, Nat.zero_add, List.getElem?_append_left (by omega)]; rfl
          | succ i =>
            rw [List.flatten_cons, List.getElem?_append_right (by rw [hy, Nat.succ_mul]; omega), hy, show (i + 1) * q + j - q = i * q + j by rw [Nat.succ_mul]; omega]
            exact ih i j (fun x h => hx x (List.mem_cons_of_mem _ h)) (by simpa using hi) hj
      intro i j hi hj
      rw [key _ i j (fun x hx => by obtain ⟨k, hk, rfl⟩ := List.mem_map.1 hx; exact (hfc k (List.mem_range.1 hk)).1) (by simpa using hi) hj]
      simp
    have hlen : (((List.range n).map f).flatten).length = n * q := by
      rw [List.length_flatten, List.map_map]
      have : (List.range n).map (List.length ∘ f) = List.replicate n q := by
        apply List.ext_getElem
        · simp
        · intro i h1 h2
          simp only [List.getElem_map, List.getElem_range, Function.comp, List.getElem_replicate]
          exact (hfc i (by simpa using h1)).1
      rw [this, List.sum_replicate_nat]
    refine ⟨((List.range n).map f).flatten, ?_, hl, hm, fun i hi => ⟨f i, (hfc i hi).1, (hfc i hi).2.1, fun j hj => hat i j hi hj⟩⟩
    refine reads_of_cells hlen fun i v hv => ?_
    have hi : i < n * q := by rw [← hlen]; exact (List.getElem?_eq_some_iff.1 hv).1
    have h1 : i / q < n := Nat.div_lt_of_lt_mul (by rw [Nat.mul_comm]; exact hi)
    have h2 : i % q < q := Nat.mod_lt _ h0
    have h3 : i / q * q + i % q = i := by rw [Nat.mul_comm]; exact Nat.div_add_mod i q
    have := hat (i / q) (i % q) h1 h2
    rw [h3, hv] at this
    have := (hfc (i / q) h1).2.2 (i % q) v this.symm
    rw [h3] at this
    exact this
end
end Go.Proofs.YtkdiejbpleojnaaGreatDoor
