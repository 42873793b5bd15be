/- A region within a round of a range over a function, shown in the plain calculus: laws of no program; the conditions are in each theorem. -/
import Derived.RangeFuncCalls
import Derived.OwnWalkIn
import Derived.OrdersIn
import Derived.Deep.RegionHeld3
import Derived.Test.YtmpgnnjhgjfgaaaDoorQuietTail
namespace Go.Sl
open Go
section
variable {P : Program} {ops : Array Oper} {md : Region.Mode} {l n : Nat} {Q : Exit → Act → World → Prop}
theorem oper_inRound {o : Oper} {a : Act} {w : World} {next : Act → World → Prop} (hd : ∀ c, o.op ≠ .defer c) (h : o.wp P a w next Q) : o.wpIn (Fence.wide.inRound l) n P a w next Q := by
  unfold Oper.wpIn Oper.wp at *
  refine ⟨fun _ _ => trivial, ?_⟩
  rw [Oper.semAt_plain (Fence.wide.inRound l) _ _ hd]
  generalize (execOp a.eval o).run P w = r at *
  cases r with
  | ok x w' =>
    cases x with
    | value v => exact h
    | skip => exact h
    | defer d => exact h
    | enter f args => exact ⟨fun h => by simp [Fence.wide] at h, CallsIn.inRound l (callsIn_wide.2 h)⟩
    | row r args => exact ⟨fun h => by simp [Fence.wide] at h, fun c cs _ => let ⟨v, w', r, s⟩ := h c cs; ⟨v, w', r, stepsIn_wide.2 s⟩⟩
    | round => exact h.elim
    | _ => exact h
  | halt x w' => cases x <;> exact h
def noDefers (ops : Array Oper) : Bool := ops.toList.all fun o => match o.op with | .defer _ => false | _ => true
theorem noDefers_spec (h : noDefers ops = true) {i : Nat} {o : Oper} (ho : ops[i]? = some o) (c : Call) : o.op ≠ .defer c := by
  intro hc
  have := List.all_eq_true.1 h o (by
    have := Array.mem_of_getElem? ho
    exact Array.mem_def.1 this)
  rw [hc] at this
  cases this
theorem wpOp_inRound (hq : ¬ LetsOut Q) (hd : noDefers ops = true) {i : Nat} {K : Act → World → Prop} {a : Act} {w : World} (h : wpOp P ops Q i K a w) : wpOpIn (Fence.wide.inRound l) n P ops Q i K a w := by
  unfold wpOpIn
  unfold wpOp at h
  cases ho : ops[i]? with
  | none => simp only [ho] at h ⊢; exact h
  | some o =>
    simp only [ho] at h ⊢
    split
    · rename_i hw
      simp only [hw, if_true] at h
      rcases h with h | h
      · exact oper_inRound (noDefers_spec hd ho) h
      · exact absurd h.2 hq
    · rename_i hw
      simp only [hw] at h
      exact ⟨fun _ _ => trivial, h⟩
theorem wpAny_inRound (hq : ¬ LetsOut Q) (hd : noDefers ops = true) : ∀ (f : Nat) (listed : Array Bool) (a : Act) (w : World), wpAny P md ops Q f listed a w → wpAnyIn (Fence.wide.inRound l) n P md ops Q f listed a w
  | 0, _, _, _, h => h
  | f + 1, _, _, _, h => ⟨h.1, fun i hi => wpOp_inRound hq hd (wpOp_mono (fun a w => wpAny_inRound hq hd f _ a w) (h.2 i hi))⟩
theorem wpOps_inRound (hq : ¬ LetsOut Q) (hd : noDefers ops = true) : ∀ (k : List Nat) (a : Act) (w : World), wpOps P ops Q k a w → wpOpsIn (Fence.wide.inRound l) n P ops Q k a w
  | [], _, _, h => h
  | i :: k, a, w, h => by
    rw [wpOps_cons] at h
    rw [wpOpsIn_cons]
    exact wpOp_inRound hq hd (wpOp_mono (fun a w => wpOps_inRound hq hd k a w) h)
end
end Go.Sl
namespace Go.Proofs.YtmpgnnjhgjfgaaaDoor
open Go.RowKit Go.Sl
theorem wpIn_region_mod_tail {P : Program} {id l0 k : Nat} {Q : Exit → Act → World → Prop} {a : Act} {w w0 : World} {S : Asn} {l : List Oper} (n : Nat) (m : Mod w w0 S) (hm : P.follows .mixedOrders = true) (hB : Region.lexTailB .any l.toArray n = true) (hd : noDefers l.toArray = true) (hq : ¬ LetsOut Q)
    (h : wpQuiet P l.toArray (fun w' => ∃ s : Held w0 S, w' = s.world) (fun a' => ∀ w', (∃ s : Held w0 S, w' = s.world) → wpList P l.toArray Q (l.drop n) a' w') (l.take n) a) : (Code.region id l.toArray true).wpIn (Fence.wide.inRound l0) k P Q a w :=
  wpIn_region_any hm (wpAny_inRound hq hd _ _ _ _ (wpAny_quiet_tail (C := fun w' => ∃ s : Held w0 S, w' = s.world) n hB ⟨⟨w.drew, Mod.drew (m := m)⟩, rfl⟩ h))
/-- In whatever order, S behind every operation but number n, behind which nothing is asked. -/
def wpAnyN (P : Program) (md : Region.Mode) (ops : Array Oper) (Q : Exit → Act → World → Prop) (S : World → Prop) (n : Nat) : Nat → Array Bool → Act → World → Prop
  | 0, listed, a, w => Region.ready md ops listed = [] ∧ Q .normal a w
  | f + 1, listed, a, w => (Region.ready md ops listed = [] → Q .normal a w) ∧ ∀ i ∈ Region.ready md ops listed, wpOp P ops Q i (fun a' w' => (i = n ∨ S w') ∧ wpAnyN P md ops Q S n f (listed.setIfInBounds i true) a' w') a w
def waitsFor (md : Region.Mode) (ops : Array Oper) (n i : Nat) : Bool := match ops[n]? with
  | some o => o.after.any fun e => Region.binds md e && e.on == i
  | none => false
section
variable {P : Program} {ops : Array Oper} {Q : Exit → Act → World → Prop} {md : Region.Mode} {S : World → Prop} {n : Nat}
theorem wpAny_of_N : ∀ (f : Nat) (listed : Array Bool) (a : Act) (w : World), wpAnyN P md ops Q S n f listed a w → wpAny P md ops Q f listed a w
  | 0, _, _, _, h => h
  | f + 1, _, _, _, h => ⟨h.1, fun i hi => wpOp_mono (fun a' w' h' => wpAny_of_N f _ a' w' h'.2) (h.2 i hi)⟩
theorem waits_not {i : Nat} {listed : Array Bool} (hw : waitsFor md ops n i = true) (hi : i ∈ Region.ready md ops listed) : n ∉ Region.ready md ops listed := fun hn => by
  obtain ⟨_, o, ho, hall⟩ := mem_ready.1 hn
  have h0 := (mem_ready.1 hi).1
  unfold waitsFor at hw
  rw [ho] at hw
  simp only [Array.any_eq_true] at hw
  obtain ⟨k, hk, he⟩ := hw
  simp only [Bool.and_eq_true, beq_iff_eq] at he
  have h1 := hall _ (Array.getElem_mem hk) he.1
  rw [he.2] at h1
  rw [getD_both h0] at h1
  cases h1
theorem wpAnyN_first {i : Nat} {oi : Oper} {v : Value} (hi : ops[i]? = some oi) (hwt : waitsFor md ops n i = true) (hin : i ≠ n) (hsel : ∀ (j : Nat) (o : Oper) cs b, ops[j]? = some o → o.op ≠ .select cs b)
    (hQ : ∀ c a w, Q (.panic c) (a.put oi.dst v) w → Q (.panic c) a w) :
    ∀ (f : Nat) (listed : Array Bool) (a : Act) (w : World),
      (∀ j oj, ops[j]? = some oj → j ≠ i → listed.getD j true = false → (∀ e ∈ oj.after, Region.binds md e = true → e.on ≠ i) → oi.apart ops oj = true) →
      i ∈ Region.ready md ops listed → YieldsIf P ops S oi v a → S w →
      wpAnyN P md ops Q S n f (listed.setIfInBounds i true) (a.put oi.dst v) w → wpAnyN P md ops Q S n (f + 1) listed a w := by
  intro f
  induction f with
  | zero =>
    intro listed a w _ hr hy hS H
    refine ⟨fun h => (by rw [h] at hr; cases hr), fun j hj => ?_⟩
    by_cases hji : j = i
    · subst hji; exact hy.wpOp hi hS ⟨.inr hS, H⟩
    · have := ready_mono hj hji
      rw [H.1] at this
      cases this
  | succ f ih =>
    intro listed a w hfree hr hy hS H
    refine ⟨fun h => (by rw [h] at hr; cases hr), fun j hj => ?_⟩
    by_cases hji : j = i
    · subst hji; exact hy.wpOp hi hS ⟨.inr hS, H⟩
    · have hjn : j ≠ n := fun e => waits_not hwt hr (e ▸ hj)
      have h1 := H.2 j (ready_mono hj hji)
      obtain ⟨hjun, oj, hoj, hall⟩ := mem_ready.1 hj
      have hnot : ∀ e ∈ oj.after, Region.binds md e = true → e.on ≠ i := fun e he hb heq => by
        have h1 := hall e he hb
        rw [heq, getD_both (mem_ready.1 hr).1] at h1
        cases h1
      have h2 := wpOp_putIf hoj (hfree j oj hoj hji hjun hnot) (fun cs b => hsel i oi cs b hi) (fun cs b => hsel j oj cs b hoj) hQ hy h1
      have hfree' : ∀ k ok, ops[k]? = some ok → k ≠ i → (listed.setIfInBounds j true).getD k true = false →
          (∀ e ∈ ok.after, Region.binds md e = true → e.on ≠ i) → oi.apart ops ok = true := fun k ok hk hki hun hno => by
        refine hfree k ok hk hki ?_ hno
        by_cases hjk : j = k
        · subst hjk; exact hjun
        · rw [getD_set_ne true hjk] at hun; exact hun
      refine wpOp_mono (fun a' w' h3 => ?_) h2
      have hS' : S w' := h3.2.1.resolve_left hjn
      refine ⟨.inr hS', ih (listed.setIfInBounds j true) a' w' hfree' (ready_mono hr (Ne.symm hji)) h3.1 hS' ?_⟩
      rw [Array.setIfInBounds_comm _ _ hji]
      exact h3.2.2
/-- Number i is taken first; the slot is handed in. -/
theorem take_at (i : Nat) (d : Option Tmp) {oi : Oper} {v : Value} {f : Nat} {listed : Array Bool} {a : Act} {w : World} (hi : ops[i]? = some oi) (hd : oi.dst = d) (hwt : waitsFor md ops n i = true) (hin : i ≠ n)
    (hs : Region.noSelect ops = true) (hf : Region.free md ops listed i = true) (hr : (Region.ready md ops listed).contains i = true)
    (hQ : ∀ c a w, Q (.panic c) (a.put oi.dst v) w → Q (.panic c) a w) (hy : YieldsIf P ops S oi v a) (hS : S w)
    (h : wpAnyN P md ops Q S n f (listed.setIfInBounds i true) (a.put d v) w) : wpAnyN P md ops Q S n (f + 1) listed a w := by
  subst hd
  exact wpAnyN_first hi hwt hin (Region.noSelect_spec hs) hQ f listed a w (Region.free_spec hi hf) (by simpa using hr) hy hS h
def AllReadyN (P : Program) (md : Region.Mode) (ops : Array Oper) (Q : Exit → Act → World → Prop) (S : World → Prop) (n f : Nat) (listed : Array Bool) (a : Act) (w : World) (rs : List Nat) : Prop :=
  ∀ i ∈ rs, wpOp P ops Q i (fun a' w' => (i = n ∨ S w') ∧ wpAnyN P md ops Q S n f (listed.setIfInBounds i true) a' w') a w
theorem AllReadyN.nil {f : Nat} {listed : Array Bool} {a : Act} {w : World} : AllReadyN P md ops Q S n f listed a w [] := fun _ h => by cases h
theorem AllReadyN.cons (d : Option Tmp) {f : Nat} {listed : Array Bool} {a : Act} {w : World} {i : Nat} {o : Oper} {rs : List Nat} (ho : ops[i]? = some o) (hd : o.dst = d) (hg : o.guard = none)
    (h : ∀ K' : Act → World → Prop, Shut (∀ v w, S w → (S w → wpAnyN P md ops Q S n f (listed.setIfInBounds i true) (a.put d v) w) → K' (a.put d v) w) → Oper.wp P o a w K' Q)
    (hs : AllReadyN P md ops Q S n f listed a w rs) : AllReadyN P md ops Q S n f listed a w (i :: rs) := fun j hj => by
  rcases List.mem_cons.1 hj with rfl | hj
  · subst hd
    refine wpOp_step ho (fun K' hK => ?_)
    have : Region.wanted o (yielded ops a.tmps) = true := by unfold Region.wanted; rw [hg]
    rw [if_pos this]
    exact h K' (fun v w hS hW => hK _ w ⟨.inr hS, hW hS⟩)
  · exact hs j hj
theorem AllReadyN.last (d : Option Tmp) {f : Nat} {listed : Array Bool} {a : Act} {w : World} {o : Oper} (ho : ops[n]? = some o) (hd : o.dst = d) (hg : o.guard = none)
    (h : ∀ K' : Act → World → Prop, Shut (∀ v w, wpAnyN P md ops Q S n f (listed.setIfInBounds n true) (a.put d v) w → K' (a.put d v) w) → Oper.wp P o a w K' Q) : AllReadyN P md ops Q S n f listed a w [n] := fun j hj => by
  obtain rfl := List.mem_singleton.1 hj
  subst hd
  refine wpOp_step ho (fun K' hK => ?_)
  have : Region.wanted o (yielded ops a.tmps) = true := by unfold Region.wanted; rw [hg]
  rw [if_pos this]
  exact h K' (fun v w hW => hK _ w ⟨.inl rfl, hW⟩)
theorem wpAnyN_ready {rs : List Nat} {f : Nat} {listed : Array Bool} {a : Act} {w : World} (hr : Region.ready md ops listed = rs) (hne : rs ≠ [])
    (h : AllReadyN P md ops Q S n f listed a w rs) : wpAnyN P md ops Q S n (f + 1) listed a w := ⟨fun h0 => absurd (hr ▸ h0) hne, hr ▸ h⟩
theorem wpAnyN_done {listed : Array Bool} {a : Act} {w : World} (hr : Region.ready md ops listed = []) (h : Q .normal a w) : wpAnyN P md ops Q S n 0 listed a w := ⟨hr, h⟩
end
theorem wpIn_region_N {P : Program} {id l0 k : Nat} {ops : Array Oper} {Q : Exit → Act → World → Prop} {a : Act} {w : World} (n : Nat) (S : World → Prop) (hm : P.follows .mixedOrders = true) (hd : noDefers ops = true) (hq : ¬ LetsOut Q) (hS : S w.drew)
    (h : S w.drew → wpAnyN P .any ops Q S n ops.size (Array.replicate ops.size false) a w.drew) : (Code.region id ops true).wpIn (Fence.wide.inRound l0) k P Q a w :=
  wpIn_region_any hm (wpAny_inRound hq hd _ _ _ _ (wpAny_of_N _ _ _ _ (h hS)))
theorem wp_region_N {P : Program} {id : Nat} {ops : Array Oper} {Q : Exit → Act → World → Prop} {a : Act} {w : World} (n : Nat) (S : World → Prop) (hm : P.follows .mixedOrders = true) (hS : S w.drew)
    (h : S w.drew → wpAnyN P .any ops Q S n ops.size (Array.replicate ops.size false) a w.drew) : (Code.region id ops true).wp P Q a w :=
  wp_region_any hm (wpAny_of_N _ _ _ _ (h hS))
/-- append of a slice that is read onto a row of one's own, at one operation. -/
theorem wp_append_row {P : Program} {w w0 : World} {S0 F : Asn} {o : Oper} {a : Act} {K : Act → World → Prop} {Q : Exit → Act → World → Prop} {s x : Operand} {t : TypeId} {e : TypeId} {bytes : Nat} [T : RowT P t e bytes]
    (ho : o.op = .call { callee := .builtin .append, args := #[s, x], argTypes := #[t, t] }) (m : Mod w w0 S0) {v : Value} {n : Nat} {xs : List Value} (hs : a.eval s = v) [tk : Take S0 (fun q : Nat × List Value => rowA e 1 v q.1 q.2) (n, xs) F]
    {A : Option Addr} {k c : Nat} {news : List Value} (hx : a.eval x = .slice A k c) [r : Reads S0 A k news] (h1 : ∀ u ∈ news, u.oneCell' = true) (h63 : n + k ≤ maxLen) (hbytes : (n + k) * bytes ≤ 140737488355328)
    (h : ∀ A' c' w', Mod w' w0 (rowA e 1 (.slice A' (n + k) c') (n + k) (xs ++ news) * F) → K (a.put o.dst (.slice A' (n + k) c')) w') : o.wp P a w K Q := by
  obtain ⟨i, z, hi, hz, hsize, hby, hzs⟩ := T.get
  have e0 : S0 = rowA e 1 v n xs * F := tk.eq
  obtain ⟨v', w', hrun, m', _⟩ := run_append_row (P := P) (S := S0) t o.type e i z bytes T.ht hi hz hsize hby hzs v n xs (Mod.to e0 (m := m)) A k c news h1 h63 hbytes
  unfold Oper.wp execOp
  simp only [ho, resolve, invoke, builtin, Sem.run_bind, Sem.run_pure, Result.andThen_ok, List.map_toArray, List.map_cons, List.map_nil, hs, hx, hrun]
  have hv2 : ∃ A' c', v' = .slice A' (n + k) c' := by
    rcases (owns_of_row m').2 with ⟨h1, h2⟩ | ⟨g, cap, cur, h1, _⟩
    · exact ⟨none, 0, by rw [h1, h2]⟩
    · exact ⟨_, _, h1⟩
  obtain ⟨A', c', rfl⟩ := hv2
  exact h A' c' w' m'
theorem wpIn_region_list {P : Program} {id l0 k : Nat} {Q : Exit → Act → World → Prop} {a : Act} {w : World} {l : List Oper} (hd : noDefers l.toArray = true) (hq : ¬ LetsOut Q) (h : wpList P l.toArray Q l a w) : (Code.region id l.toArray false).wpIn (Fence.wide.inRound l0) k P Q a w :=
  wpIn_region (wpOps_inRound hq hd _ _ _ (by rw [List.range_eq_range', List.size_toArray, wpOps_eq_wpList l 0 (by simp)]; exact h))
end Go.Proofs.YtmpgnnjhgjfgaaaDoor
