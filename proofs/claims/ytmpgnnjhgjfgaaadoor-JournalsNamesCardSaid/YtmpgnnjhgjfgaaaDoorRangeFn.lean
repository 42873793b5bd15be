/- A range over a function in the small separation logic: what a round asks, what an iterator promises, and the statement's law: plain definitions and lemmas; the conditions are in each theorem. -/
import Derived.RangeFuncNested
import Derived.RangeFuncBound
import Derived.RangeFuncCalls
import Derived.RangeFuncLeaves
import Derived.Shelf.Abstract
import Derived.Shelf.RegionOpen
import Derived.OwnWalkIn
import Derived.TacticsInMore
import Derived.LoopNIn
import Derived.LoopIn
import Derived.Test.YtmpgnnjhgjfgaaaDoorRow
namespace Go.Sl
open Go Go.RowKit
theorem heap_putObj_ne (w : World) (g : Nat) (o : Obj) (k : Nat) (h : k ≠ g) : (w.putObj g o).heap[k]? = w.heap[k]? := World.putObj_heap_other h
theorem Mod.putObj {w w0 : World} {S F : Asn} {g : Nat} {o : Obj} (o' : Obj) [m : Mod w w0 S] [t : Take S (blk g) o F] : Mod (w.putObj g o') w0 (blk g o' * F) :=
  Mod.turn (w := w) (g := g) (u := o) (pred := blk g) rfl rfl rfl (fun k hk => heap_putObj_ne _ _ _ _ hk)
    (fun h hh => by rw [hh]; exact ⟨fun k hk => by simp [Hp.one, hk], by simp [Hp.one]⟩)
    (fun h hh hw => by
      rw [hh] at hw
      simp [Hp.one] at hw
      have hlt := (Array.getElem?_eq_some_iff.1 hw).1
      show _ = _
      funext k
      by_cases hk : k = g
      · subst hk; simp [Hp.one, World.putObj_heap_same hlt]
      · simp [Hp.one, hk])
theorem take_heap {w w0 : World} {S F : Asn} {g : Nat} {o : Obj} (m : Mod w w0 S) (t : Take S (blk g) o F) : w.heap[g]? = some o := by
  have hh : Has S g o := by rw [t.eq]; infer_instance
  exact Mod.heap (m := m)
/-- What an iterator's caller owes it at each call of yield: the round ends with true, J carried on by the element, or with false, Jx at what has come; whatever else lies (X) stays. -/
def RoundsSl {α : Type} (P : Program) (w0 : World) (l : Nat) (encs : α → Array Value) (J Jx : List α → Asn) (N : List α → α → Prop) : Prop :=
  ∀ (pre : List α) (x : α) (X : Asn) (W : World), N pre x → Mod W w0 (J pre * X) → YieldAt Fence.wide 5 P l (encs x) W fun e W' =>
    (e = .returned (.bool true) ∧ Mod W' w0 (J (pre ++ [x]) * X)) ∨ (e = .returned (.bool false) ∧ Mod W' w0 (Jx (pre ++ [x]) * X))
/-- An iterator's value, over a state K of its own: it hands over what 'N' lets come; behind it all has come ('Sd'), or a round has said 'no more' ('Sp'). 'R': what it reads of its caller's. -/
def SeqSl {α : Type} (P : Program) (w0 : World) (gf : Nat) (lb : Array Value) (encs : α → Array Value) (R : Asn → Prop) (K : Asn) (K' : List α → Asn) (Sd Sp : List α → Prop) (N : List α → α → Prop) : Prop :=
  ∀ (l : Nat) (J Jx : List α → Asn) (W : World), (∀ pre, R (J pre)) → RoundsSl P w0 l encs J Jx N → Mod W w0 (J [] * K) →
    Calls P gf (#[.func (.yield l) #[] #[]] ++ lb) W fun e W' => (∃ v, e = .returned v) ∧
      ((∃ xs, Sd xs ∧ Mod W' w0 (J xs * K' xs)) ∨ (∃ pre, Sp pre ∧ Mod W' w0 (Jx pre * K' pre)))
/-- How the body of a round may be left. -/
def endsSl {α : Type} (w0 : World) (I : List α → Asn) (Ix : Code → List α → Asn) (X : Asn) (xs : List α) : Exit → Act → World → Prop
  | .normal, _, W' => Mod W' w0 (I xs * X)
  | .ret, _, W' => Mod W' w0 (Ix .ret xs * X)
  | .exit id, _, W' => Mod W' w0 (Ix (.exit id) xs * X)
  | .goto t, _, W' => Mod W' w0 (Ix (.goto t) xs * X)
  | .panic _, _, _ => False
  | .outgrown, _, _ => False
theorem mid_swap {A B C : Asn} : A * (B * C) = B * (A * C) := sep_left_comm A B C
/-- The statement 'for .. := range g { .. }' in a function's own code. -/
theorem wp_rangeFunc_sl {α : Type} {P : Program} {n : Nat} {g : Operand} {ps : Array Tmp} {assign body : Code} {Q : Exit → Act → World → Prop} {a : Act} {w w0 : World}
    {gf : Nat} {lb : Array Value} (hg : a.eval g = .func (.func gf) #[] lb) (eg : ∀ args w, (callFunc gf args).run P w = .ok (.enter gf args) w)
    {encs : α → Array Value} {R : Asn → Prop} {K : Asn} {K' : List α → Asn} {Sd Sp : List α → Prop} {N : List α → α → Prop} (hseq : SeqSl P w0 gf lb encs R K K' Sd Sp N) (hps : ∀ x, (encs x).size = ps.size)
    (I : List α → Asn) (Ix : Code → List α → Asn) (m : Mod w w0 (I [] * K)) (hR : ∀ pre Y, R (I pre * Y)) (a₁ : α → Act)
    (hassign : ∀ (l : Nat) (x : α) (W : World) (K : Act → World → Prop), K (a₁ x) W →
      assign.wpIn (Fence.wide.inRound l) 5 P (Exit.then K (fun _ _ _ => False)) { tmps := (ps.zip (encs x)).foldl (fun t (p, v) => t.setIfInBounds p v) a.tmps, defers := [] } W)
    (hbody : ∀ (l : Nat) (pre : List α) (x : α) (X : Asn) (W : World), N pre x → Mod W w0 (I pre * X) → body.wpIn (Fence.wide.inRound l) 5 P (endsSl w0 I Ix X (pre ++ [x])) (a₁ x) W)
    (hdone : ∀ (D : Nat) (xs : List α) (W : World), Sd xs → Mod W w0 (blk D (.deferred (some [])) * (I xs * K' xs)) → Q .normal { a with defers := { target := .collected D, args := #[] } :: a.defers } W)
    (hstop : ∀ (D : Nat) (c : Code) (pre : List α) (W : World), Sp pre → Mod W w0 (blk D (.deferred (some [])) * (Ix c pre * K' pre)) → c.wpIn Fence.wide n P Q { a with defers := { target := .collected D, args := #[] } :: a.defers } W) :
    (Code.rangeFunc g ps assign body).wpIn Fence.wide n P Q a w := by
  refine wpIn_rangeFunc ?_
  intro fn hfn
  obtain ⟨rec, hrec⟩ : ∃ rec : LoopState → Option Code → Loop, rec = fun st pe => { state := st, pending := pe, fn, tmps := a.tmps, params := ps, assign, body, defers := w.heap.size } := ⟨_, rfl⟩
  obtain ⟨W1, hW1⟩ : ∃ W1, (w.alloc (.deferred (some []))).alloc (.loop (rec .ready none)) = W1 := ⟨_, rfl⟩
  have m1 : Mod W1 w0 (blk (w.heap.size + 1) (.loop (rec .ready none)) * (blk w.heap.size (.deferred (some [])) * (I [] * K))) := by
    rw [← hW1]; exact Mod.alloc (m := Mod.alloc (m := m) (hn := ⟨rfl⟩) _) (hn := ⟨by simp⟩) _
  refine ⟨w.heap.size + 1, [{ target := .collected w.heap.size, args := #[] }], W1, { target := .fn (.func gf) lb, args := #[.func (.yield (w.heap.size + 1)) #[] #[]] }, W1, gf,
    #[.func (.yield (w.heap.size + 1)) #[] #[]] ++ lb, W1, ?_, ?_, fun _ _ => trivial, ?_, fun h => by simp [Fence.wide] at h, ?_⟩
  · rw [← hW1, hrec]; exact run_enterLoop_outer _ _ _ _ _
  · simp only [resolve, hg]
    simp [go_sem]
  · simp [invoke, go_sem, eg]
  · refine callsIn_wide.2 ((hseq (w.heap.size + 1)
      (fun pre => blk (w.heap.size + 1) (.loop (rec .ready none)) * (blk w.heap.size (.deferred (some [])) * I pre))
      (fun pre => ex fun c => blk (w.heap.size + 1) (.loop (rec .done (some c))) * (blk w.heap.size (.deferred (some [])) * Ix c pre)) W1 (fun pre => ?_) ?_ ?_).mono ?_)
    · have := hR pre (blk (w.heap.size + 1) (.loop (rec .ready none)) * blk w.heap.size (.deferred (some [])))
      rw [show blk (w.heap.size + 1) (.loop (rec .ready none)) * (blk w.heap.size (.deferred (some [])) * I pre) = I pre * (blk (w.heap.size + 1) (.loop (rec .ready none)) * blk w.heap.size (.deferred (some []))) from by ac_rfl]
      exact this
    · -- one round
      intro pre x X W hN mW
      have mW : Mod W w0 (blk (w.heap.size + 1) (.loop (rec .ready none)) * ((blk w.heap.size (.deferred (some [])) * I pre) * X)) := by rw [← sep_assoc]; exact mW
      have hl : W.heap[w.heap.size + 1]? = some (.loop (rec .ready none)) := take_heap mW inferInstance
      have hy := run_yield (P := P) (args := encs x) hl (by rw [hrec]; exact hps x)
      rw [hrec] at hy
      refine ⟨fn, _, assign, body, hy, roundIn_of_wpIn hfn (hassign _ x W _ ⟨_, run_beginRound hl (by rw [hrec]), ?_⟩)⟩
      have m2 := Mod.putObj (g := w.heap.size + 1) (.loop { rec .ready none with state := .busy }) (m := mW)
      refine wpIn_mono (hbody _ pre x (blk (w.heap.size + 1) (.loop { rec .ready none with state := .busy }) * (blk w.heap.size (.deferred (some [])) * X)) _ hN (Mod.to (m := m2) (by rw [emp_sep]; ac_rfl))) ?_
      have fin : ∀ (jump : Option Code) (G : Asn) (W3 : World), Mod W3 w0 (G * (blk (w.heap.size + 1) (.loop { rec .ready none with state := .busy }) * (blk w.heap.size (.deferred (some [])) * X))) →
          (Instr.endRound (w.heap.size + 1) jump).run P W3 = .ok (.bool jump.isNone) (W3.putObj (w.heap.size + 1) (.loop (rec (if jump.isNone then .ready else .done) jump))) ∧
          Mod (W3.putObj (w.heap.size + 1) (.loop (rec (if jump.isNone then .ready else .done) jump))) w0 ((blk (w.heap.size + 1) (.loop (rec (if jump.isNone then .ready else .done) jump)) * (blk w.heap.size (.deferred (some [])) * G)) * X) := fun jump G W3 m3 => by
        have hl3 : W3.heap[w.heap.size + 1]? = some (.loop { rec .ready none with state := .busy }) := take_heap m3 inferInstance
        have m4 := Mod.putObj (g := w.heap.size + 1) (.loop (rec (if jump.isNone then .ready else .done) jump)) (m := m3)
        have := run_endRound (P := P) jump hl3
        refine ⟨by rw [hrec] at this ⊢; exact this, Mod.to (m := m4) ?_⟩
        rw [emp_sep]; ac_rfl
      rintro e a3 W3 hp
      cases e with
      | normal =>
        obtain ⟨hr, m4⟩ := fin none _ W3 hp
        exact ⟨_, _, hr, .inl ⟨rfl, m4⟩⟩
      | ret =>
        obtain ⟨hr, m4⟩ := fin (some .ret) _ W3 hp
        exact ⟨_, _, hr, .inr ⟨rfl, Mod.shut .ret (m := m4)⟩⟩
      | exit id =>
        obtain ⟨hr, m4⟩ := fin (some (.exit id)) _ W3 hp
        exact ⟨_, _, hr, .inr ⟨rfl, Mod.shut (.exit id) (m := m4)⟩⟩
      | goto t =>
        obtain ⟨hr, m4⟩ := fin (some (.goto t)) _ W3 hp
        exact ⟨_, _, hr, .inr ⟨rfl, Mod.shut (.goto t) (m := m4)⟩⟩
      | panic ch => exact hp.elim
      | outgrown => exact hp.elim
    · exact Mod.to (m := m1) (by ac_rfl)
    · -- behind the iterator
      rintro e W2 ⟨⟨v, rfl⟩, (⟨xs, hS, m2⟩ | ⟨pre, hSp, m2⟩)⟩
      · have m2 : Mod W2 w0 (blk (w.heap.size + 1) (.loop (rec .ready none)) * ((blk w.heap.size (.deferred (some [])) * I xs) * K' xs)) := by rw [← sep_assoc]; exact m2
        have hl := take_heap (g := w.heap.size + 1) m2 inferInstance
        have m3 := Mod.putObj (g := w.heap.size + 1) (.loop { rec .ready none with state := .exhausted }) (m := m2)
        refine ⟨none, W2.putObj (w.heap.size + 1) (.loop { rec .ready none with state := .exhausted }), by have := run_endLoop (P := P) hl (by rw [hrec]; simp); subst hrec; exact this, ?_⟩
        rw [emp_sep, sep_assoc] at m3
        exact hdone _ xs _ hS (Mod.drop (m := m3))
      · obtain ⟨c, m2⟩ := Mod.open (m := m2)
        have m2 : Mod W2 w0 (blk (w.heap.size + 1) (.loop (rec .done (some c))) * ((blk w.heap.size (.deferred (some [])) * Ix c pre) * K' pre)) := by rw [← sep_assoc]; exact m2
        have hl := take_heap (g := w.heap.size + 1) m2 inferInstance
        have m3 := Mod.putObj (g := w.heap.size + 1) (.loop { rec .done (some c) with state := .exhausted }) (m := m2)
        refine ⟨some c, W2.putObj (w.heap.size + 1) (.loop { rec .done (some c) with state := .exhausted }), by have := run_endLoop (P := P) hl (by rw [hrec]; simp); subst hrec; exact this, ?_⟩
        rw [emp_sep, sep_assoc] at m3
        exact hstop _ c pre _ hSp (Mod.drop (m := m3))
end Go.Sl
