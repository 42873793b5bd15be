/- append(s, make([]T, k)...) on a slice of one's own, in the small separation logic: plain lemmas; the conditions are in each theorem.
A region that draws its order: quiet operations first (in whatever order; each keeps the class of worlds), then the last ones in their one order: a law of no program.
A region within a round of a range over a function, shown in the plain calculus: laws of no program; the conditions are in each theorem.
The walks of package ints' PutFour and GetFour, and of slices.Concat, slices.Grow below: contracts over the small separation logic; the conditions are in each theorem.
The parts of a record, one after the other, in plain lists: plain definitions and lemmas.
The walk of journals' iterator over a record's parts: what it hands over; the conditions are in each theorem.
The walks of package sums: contracts over the small separation logic; the conditions are in each theorem.
Rows of records ([][]byte): what such a slice reads as; the laws' helpers SameBytes, SameRecords, RecordsSize: contracts over the small separation logic; the conditions are in each theorem.
Records that came in, read: plain lemmas. -/
import Derived.Lib.AppendZerosOnto
import Derived.Test.YtmhlebpchllpbaaGreatDoorBaseG
import Derived.StillTail
import Derived.Deep.QuietTactic
import Derived.BigQuiet
import Derived.Test.YtmhlebpchllpbaaGreatDoorNamesG
import Derived.RangeFuncCalls
import Derived.OwnWalkIn
import Derived.OrdersIn
import Derived.Deep.RegionHeld3
import Derived.Test.YtmhlebpchllpbaaGreatDoorJourPG
import Derived.Deep.LoopGhost
import Derived.Laws.BitsAllLaws
import Derived.Lib.AppendZeros
import Derived.Deep.MidRow
import Derived.Test.YtmhlebpchllpbaaGreatDoorArgsG
namespace Go.Sl
open Go Go.RowKit
theorem zeroCells_one (z : Value) (n : Nat) : (Builtin.zeroCells #[z] n).toList = List.replicate n z := by
  apply List.ext_getElem
  · simp [Builtin.zeroCells]
  · intro i h1 h2
    simp [Builtin.zeroCells, Nat.mod_one]
theorem run_append_room_zeros {P : Program} (w : World) (t tn ty e : TypeId) (i : TypeInfo) (z : Value) (kq kn : IntKind) (ht : P.underlying t = some (.slice e)) (htn : P.underlying tn = some (.int kn)) (hi : P.info? e = some i) (hz : i.zero = some z)
    (hsize : i.size = 1) (hzs : z.cells = #[z]) (h1 : z.oneCell' = true) (g n cap : Nat) (cur : Array Value) (hg : w.heap[g]? = some (.cells cur e (0, 0))) (k : Nat) (h0 : 0 < k) (hroom : n + k ≤ cap) (hfit : n + k ≤ cur.size) (hk : (k : Int) ≤ 9223372036854775807) (h48 : k * i.bytes ≤ 281474976710656) :
    (Builtin.append_ #[t, tn] ty #[.slice (some ⟨g, 0, none⟩) n cap, .int kq k]).run P w =
      .ok (.slice (some ⟨g, 0, none⟩) (n + k) cap) (w.setRow g (cur.toList.take n ++ List.replicate k z ++ cur.toList.drop (n + k)).toArray) := by
  have hst := run_storeCells_at P g (n * i.size) e (Builtin.zeroCells #[z] k).toList 0 cur w hg (by rw [zeroCells_one, List.length_replicate, hsize]; omega) (fun v hv => by rw [zeroCells_one] at hv; rw [(List.mem_replicate.1 hv).2]; exact h1)
  rw [zeroCells_one, List.length_replicate] at hst
  simp only [Nat.add_zero, hsize, Nat.mul_one] at hst
  have hk0 : k ≠ 0 := by omega
  have hw : IntKind.i64.wrap (k : Int) = k := by rw [IntKind.wrap_i64]; omega
  have hneg : ¬ ((k : Int) < 0) := by omega
  have h48i : ¬ (281474976710656 < (k : Int) * (i.bytes : Int)) := by
    rw [← Int.natCast_mul]
    omega
  simp [Builtin.append_, run_underlying ht, run_underlying htn, sizeOf, typeInfo, zeroValue, hi, hz, asInt, asIntOf, hw, hneg, hroom, hsize, hk0, h48i, hzs, zeroCells_one, Addr.add_lit, hst]
theorem run_append_row_zeros {P : Program} {w w0 : World} {F : Asn} (t tn ty e : TypeId) (i : TypeInfo) (z : Value) (kn : IntKind) (bytes : Nat) (ht : P.underlying t = some (.slice e)) (htn : P.underlying tn = some (.int kn)) (hi : P.info? e = some i) (hz : i.zero = some z)
    (hsize : i.size = 1) (hby : i.bytes = bytes) (hzs : z.cells = #[z]) (h1 : z.oneCell' = true) (v : Value) (n : Nat) (xs : List Value) (m : Mod w w0 (rowA e 1 v n xs * F)) (k : Nat) (h63 : n + k ≤ maxLen) (hbytes : (n + k) * bytes ≤ 140737488355328) :
    ∃ A' c' w', (Builtin.append_ #[t, tn] ty #[v, .int .i64 k]).run P w = .ok (.slice A' (n + k) c') w' ∧ Mod w' w0 (rowA e 1 (.slice A' (n + k) c') (n + k) (xs ++ List.replicate k z) * F) := by
  have hown := owns_of_row m
  unfold maxLen at h63
  have hw0 : IntKind.i64.wrap (0 : Int) = 0 := by decide
  rcases Nat.eq_zero_or_pos k with hk | hk
  · subst hk
    simp only [Nat.add_zero, List.replicate_zero, List.append_nil]
    rcases hown.2 with ⟨rfl, rfl⟩ | ⟨g, cap, cur, rfl, _, hh, hnc, _⟩
    · refine ⟨none, 0, w, ?_, m⟩
      simp [Builtin.append_, run_underlying ht, run_underlying htn, sizeOf, typeInfo, hi, asInt, asIntOf, hw0]
    · refine ⟨_, _, w, ?_, m⟩
      simp [Builtin.append_, run_underlying ht, run_underlying htn, sizeOf, typeInfo, hi, hnc, asInt, asIntOf, storeCells, hw0]
  · have hl := hown.1
    have h48 : k * i.bytes ≤ 281474976710656 := by
      rw [hby]
      have := Nat.mul_le_mul_right bytes (show k ≤ n + k by omega)
      omega
    have hlen : (xs ++ List.replicate k z).length = (n + k) * 1 := by rw [List.length_append, List.length_replicate, hl]; omega
    have fresh : ∀ (old : Nat) (olds : List Value), olds = xs → old < n + k → ∀ row,
        (w.drew.alloc (.cells (olds.toArray ++ Builtin.zeroCells z.cells k ++ Builtin.zeroCells z.cells (grownCap w (n + k) old e - (n + k))) e)).ownsRow 0 e 1
          (.slice (some ⟨w.heap.size, 0, none⟩) (n + k) (grownCap w (n + k) old e)) (n + k) (xs ++ List.replicate k z) ∧
        w.grownBy (w.drew.alloc (.cells (olds.toArray ++ Builtin.zeroCells z.cells k ++ Builtin.zeroCells z.cells (grownCap w (n + k) old e - (n + k))) e)) row := by
      rintro old olds rfl ho row
      have hge := grownCap_ge w (n + k) old e
      have hcm : grownCap w (n + k) old e ≤ maxLen := grownCap_le_maxLen w (n + k) old e (by unfold maxLen; omega)
      refine ⟨⟨hlen, .inr ⟨w.heap.size, _, _, rfl, Nat.zero_le _, _root_.Go.heap_alloc_new w.drew _, hge, hcm, ?_, ?_⟩⟩, ⟨rfl, rfl, rfl, by simp, fun k hk _ => _root_.Go.heap_alloc_old w.drew _ hk⟩⟩
      · simp only [Array.size_append, List.size_toArray, size_zeroCells, hzs, hl, List.size_toArray, List.length_cons, List.length_nil]
        omega
      · simp only [Array.toList_append, hzs, zeroCells_one]
        rw [← hlen]
        exact List.take_left
    rcases hown.2 with ⟨rfl, rfl⟩ | ⟨g, cap, cur, rfl, _, hh, hnc, hcm, hcs, htake⟩
    · have hxs : xs = [] := List.eq_nil_of_length_eq_zero (by simpa using hl)
      obtain ⟨f1, f2⟩ := fresh 0 [] hxs.symm (by omega) (Value.ownBlock (.slice none 0 0))
      simp only [Nat.zero_add, Array.empty_append] at f1 f2 ⊢
      have hr := Lib.run_append_nil_zeros (P := P) w t tn ty e i z .i64 kn ht htn hi hz k hk (by omega) (by omega) h48
      exact ⟨_, _, _, hr, m.rowStep f1 f2 (.inr rfl)⟩
    · by_cases hroom : n + k ≤ cap
      · have hr := run_append_room_zeros (P := P) w t tn ty e i z .i64 kn ht htn hi hz hsize hzs h1 g n cap cur hh k hk hroom (by omega) (by omega) h48
        refine ⟨_, _, _, hr, m.rowStep (v' := .slice (some ⟨g, 0, none⟩) (n + k) cap) ⟨hlen, .inr ⟨g, cap, _, rfl, Nat.zero_le _, setRow_heap w g cur _ e _ hh, hroom, hcm, ?_, ?_⟩⟩ ⟨rfl, rfl, rfl, by simp, fun k _ hk => setRow_other w g k _ (fun e => hk (by simp [Value.ownBlock, e]))⟩ (.inl rfl)⟩
        · simp only [List.size_toArray, List.length_append, List.length_take, List.length_drop, Array.length_toList, List.length_replicate]
          omega
        · rw [← hlen]
          have : cur.toList.take n = xs := by rw [← htake, Nat.mul_one]
          rw [this]
          exact List.take_left
      · have holds : ∀ j u, xs[j]? = some u → w.cell? ((⟨g, 0, none⟩ : Addr).add j) = some u := hown.cells (g := g) rfl
        have hold := run_firstCells_some (P := P) w.drew i.size n ⟨g, 0, none⟩ n cap xs (by rw [hl, hsize]) (by simpa using holds)
        have hr := Lib.run_append_grow_zeros (P := P) w t tn ty e i z .i64 kn ht htn hi hz (some ⟨g, 0, none⟩) n cap xs hold k hk (by omega) (by omega) (by omega) h48 (by rw [hby]; exact growslice_fits (by omega) hbytes)
        obtain ⟨f1, f2⟩ := fresh cap xs rfl (by omega) (Value.ownBlock (.slice (some ⟨g, 0, none⟩) n cap))
        exact ⟨_, _, _, hr, m.rowStep f1 f2 (.inr rfl)⟩
/-- append of so many zeros onto a row of one's own, at the operation. -/
theorem wpList_append_zeros {P : Program} {w w0 : World} {S0 F : Asn} {ops : Array Oper} {rest : List Oper} {o : Oper} {a : Act} {Q : Exit → Act → World → Prop} {s x : Operand} {t tn : TypeId} {e : TypeId} {bytes : Nat} [T : RowT P t e bytes] (hgd : o.guard = none)
    (ho : o.op = .call { callee := .builtin .append, args := #[s, x], argTypes := #[t, tn] }) {kn : IntKind} (htn : P.underlying tn = some (.int kn)) {i : TypeInfo} {z : Value} (hi : P.info? e = some i) (hz : i.zero = some z) (hzs : z.cells = #[z]) (h1 : z.oneCell' = true)
    (m : Mod w w0 S0) {v : Value} {n : Nat} {xs : List Value} (hs : a.eval s = v) [tk : Take S0 (fun q : Nat × List Value => rowA e 1 v q.1 q.2) (n, xs) F] {k : Nat} (hx : a.eval x = .int .i64 (k : Int)) (h63 : n + k ≤ maxLen) (hbytes : (n + k) * bytes ≤ 140737488355328)
    (h : ∀ A' c' w', Mod w' w0 (rowA e 1 (.slice A' (n + k) c') (n + k) (xs ++ List.replicate k z) * F) → wpList P ops Q rest (a.put o.dst (.slice A' (n + k) c')) w') : wpList P ops Q (o :: rest) a w := by
  obtain ⟨i', z', hi', hz', hsize, hby, _⟩ := T.get
  rw [hi] at hi'
  injection hi' with e1
  subst e1
  have e0 : S0 = rowA e 1 v n xs * F := tk.eq
  refine wpList_plain hgd fun _ hK => ?_
  obtain ⟨A', c', w', hrun, m'⟩ := run_append_row_zeros (P := P) t tn o.type e i z kn bytes T.ht htn hi hz hsize hby hzs h1 v n xs (Mod.to e0 (m := m)) k h63 hbytes
  unfold Oper.wp execOp
  simp only [ho, resolve, invoke, builtin, Sem.run_bind, Sem.run_pure, Result.andThen_ok, List.map_toArray, List.map_cons, List.map_nil, hs, hx, hrun]
  exact hK _ _ (h A' c' w' m')
end Go.Sl
namespace Go.Sl
open Go Go.RowKit
section
variable {P : Program} {ops : Array Oper} {md : Region.Mode} {C : World → Prop}
def wpAnyLQ (P : Program) (md : Region.Mode) (ops : Array Oper) (C : World → Prop) (n : Nat) (L : Array Bool → Act → Prop) : Nat → Array Bool → Act → Prop
  | 0, listed, a => L listed a
  | f + 1, listed, a => Region.ready md ops listed ≠ [] ∧ ∀ i ∈ Region.ready md ops listed, i < n ∧ qOp P ops C i (wpAnyLQ P md ops C n L f (listed.setIfInBounds i true)) a
theorem wpAny_of_headQ {n g : Nat} {L : Array Bool → Act → Prop} {Q' : Exit → Act → World → Prop} (hL : ∀ listed a w, C w → L listed a → wpAny P md ops Q' g listed a w) :
    ∀ (f : Nat) (listed : Array Bool) (a : Act) (w : World), C w → wpAnyLQ P md ops C n L f listed a → wpAny P md ops Q' (f + g) listed a w
  | 0, listed, a, w, hw, h => by rw [Nat.zero_add]; exact hL _ _ _ hw h
  | f + 1, listed, a, w, hw, h => by
    rw [show f + 1 + g = (f + g) + 1 by omega]
    exact ⟨fun h0 => absurd h0 h.1, fun i hi => wpOp_of_qOp hw (fun a' w' hw' h' => wpAny_of_headQ hL f _ a' w' hw' h') (h.2 i hi).2⟩
theorem wpAnyLQ_first {n i : Nat} {oi : Oper} {v : Value} {L : Array Bool → Act → Prop} (hi : ops[i]? = some oi) (hsel : ∀ (j : Nat) (o : Oper) cs b, ops[j]? = some o → o.op ≠ .select cs b)
    (hs : Region.sinkB md ops n = true) (hc : Region.chainB md ops n = true) (hn : n < ops.size) (hin : i < n)
    (hdone : ∀ listed a, L listed a → ∀ j ∈ Region.ready md ops listed, n ≤ j) :
    ∀ (f : Nat) (listed : Array Bool) (a : Act), HeadInv md ops n listed →
      (∀ j oj, ops[j]? = some oj → j ≠ i → listed.getD j true = false → (∀ e ∈ oj.after, Region.binds md e = true → e.on ≠ i) → oi.apart ops oj = true) →
      i ∈ Region.ready md ops listed → YieldsIn P ops C oi v a →
      wpAnyLQ P md ops C n L f (listed.setIfInBounds i true) (a.put oi.dst v) → wpAnyLQ P md ops C n L (f + 1) listed a := by
  intro f
  induction f with
  | zero =>
    intro listed a inv _ hr hy H
    have hun := (mem_ready.1 hr).1
    refine ⟨fun h => (by rw [h] at hr; cases hr), fun j hj => ?_⟩
    have hjn : j < n := by
      rcases Nat.lt_or_ge j n with h | h
      · exact h
      · exact absurd hj (tail_waits hs hc hn inv _ i rfl hin hun j h)
    refine ⟨hjn, ?_⟩
    by_cases hji : j = i
    · subst hji; exact hy.qOp hi H
    · have := hdone _ _ H j (ready_mono hj hji)
      omega
  | succ f ih =>
    intro listed a inv hfree hr hy H
    have hun := (mem_ready.1 hr).1
    refine ⟨fun h => (by rw [h] at hr; cases hr), fun j hj => ?_⟩
    have hjn : j < n := by
      rcases Nat.lt_or_ge j n with h | h
      · exact h
      · exact absurd hj (tail_waits hs hc hn inv _ i rfl hin hun j h)
    refine ⟨hjn, ?_⟩
    by_cases hji : j = i
    · subst hji; exact hy.qOp hi H
    · have h1 := (H.2 j (ready_mono hj hji)).2
      obtain ⟨hjun, oj, hoj, hall⟩ := mem_ready.1 hj
      have hnot : ∀ e ∈ oj.after, Region.binds md e = true → e.on ≠ i := fun e he hb heq => by
        have h1 := hall e he hb
        rw [heq, getD_both hun] at h1
        cases h1
      have h2 := qOp_put hoj (hfree j oj hoj hji hjun hnot) (fun cs b => hsel i oi cs b hi) (fun cs b => hsel j oj cs b hoj) hy h1
      have hfree' : ∀ k ok, ops[k]? = some ok → k ≠ i → (listed.setIfInBounds j true).getD k true = false →
          (∀ e ∈ ok.after, Region.binds md e = true → e.on ≠ i) → oi.apart ops ok = true := fun k ok hk hki hun hno => by
        refine hfree k ok hk hki ?_ hno
        by_cases hjk : j = k
        · subst hjk; exact hjun
        · rw [getD_set_ne true hjk] at hun; exact hun
      refine qOp_mono (fun a' h3 => ih (listed.setIfInBounds j true) a' (inv.set hj hjn) hfree' (ready_mono hr (Ne.symm hji)) h3.1 ?_) h2
      rw [Array.setIfInBounds_comm _ _ hji]
      exact h3.2
theorem wpAnyLQ_lex {n g : Nat} {Lq : Act → Prop} (hsel : Region.noSelect ops = true) (hs : Region.sinkB md ops n = true) (hc : Region.chainB md ops n = true) (hn : n < ops.size) :
    ∀ (l : List Oper) (k : Nat) (listed : Array Bool) (a : Act), (∀ j, j < l.length → l[j]? = ops[k + j]?) → k + l.length = n → HeadInv md ops n listed →
    Region.lexHead md ops g l.length k listed = true → wpQuiet P ops C Lq l a →
    wpAnyLQ P md ops C n (fun listed' a' => Region.seqB md ops g n listed' = true ∧ Lq a') l.length listed a
  | [], k, listed, a, _, hk, _, hB, h => by
    have : k = n := by simpa using hk
    subst this
    exact ⟨by simpa [Region.lexHead] using hB, h⟩
  | o :: l, k, listed, a, hl, hk, inv, hB, h => by
    have h0 : ops[k]? = some o := by simpa using (hl 0 (by simp)).symm
    simp only [List.length_cons, Region.lexHead, Bool.and_eq_true] at hB
    obtain ⟨⟨hr, hf⟩, hB'⟩ := hB
    have hkn : k < n := by simp only [List.length_cons] at hk; omega
    have hr' : k ∈ Region.ready md ops listed := by simpa using hr
    have hst : qOp P ops C k (wpQuiet P ops C Lq l) a := by unfold qOp; simp only [h0]; exact h
    obtain ⟨v, hy, hK⟩ := yieldsIn_of_qOp h0 hst
    exact wpAnyLQ_first h0 (Region.noSelect_spec hsel) hs hc hn hkn (fun listed' a' hL => seqB_ready hL.1) l.length listed a inv (Region.free_spec h0 hf) hr' hy
      (wpAnyLQ_lex hsel hs hc hn l (k + 1) _ _ (fun j hj => by have := hl (j + 1) (by simp; omega); simpa [Nat.add_assoc, Nat.add_comm 1 j] using this) (by simp only [List.length_cons] at hk; omega) (inv.set hr' hkn) hB' hK)
theorem wpAny_quiet_tail {Q : Exit → Act → World → Prop} {a : Act} {w : World} {l : List Oper} (n : Nat) (hB : Region.lexTailB .any l.toArray n = true) (hC : C w.drew)
    (h : wpQuiet P l.toArray C (fun a' => ∀ w', C w' → wpList P l.toArray Q (l.drop n) a' w') (l.take n) a) : wpAny P .any l.toArray Q l.toArray.size (Array.replicate l.toArray.size false) a w.drew := by
  simp only [Region.lexTailB, Bool.and_eq_true, decide_eq_true_eq] at hB
  obtain ⟨⟨⟨⟨hsel, hn⟩, hs⟩, hc⟩, hlex⟩ := hB
  have hn' : n < l.length := by simpa using hn
  have htl : (l.take n).length = n := by simp; omega
  have hdl : (l.drop n).length = l.toArray.size - n := by simp
  have inv0 : HeadInv .any l.toArray n (Array.replicate l.toArray.size false) :=
    ⟨by simp, fun j oj _ hl => (by rw [getD_replicate_false] at hl; cases hl), fun t _ ht => getD_in (by simpa using ht) (getD_replicate_false _ _)⟩
  have H := wpAnyLQ_lex (md := .any) (g := l.toArray.size - n) hsel hs hc hn (l.take n) 0 _ a (fun j hj => by
    have hj' : j < n := by rw [htl] at hj; exact hj
    simp [hj']) (by simpa using htl) inv0 (by rw [htl]; exact hlex) h
  have := wpAny_of_headQ (Q' := Q) (g := l.toArray.size - n) (fun listed a' w' hw' hL => by
    have := wpAny_of_seq (md := .any) (Q' := Q) (l.drop n) n listed a' w' (fun j => by simp [List.getElem?_drop]) (by rw [hdl]; exact hL.1) (hL.2 w' hw')
    rwa [hdl] at this) _ _ _ _ hC H
  rw [htl, show n + (l.toArray.size - n) = l.toArray.size by omega] at this
  exact this
theorem wp_region_quiet_tail {id : Nat} {Q : Exit → Act → World → Prop} {a : Act} {w : World} {l : List Oper} (n : Nat) (hm : P.follows .mixedOrders = true) (hB : Region.lexTailB .any l.toArray n = true) (hC : C w.drew)
    (h : wpQuiet P l.toArray C (fun a' => ∀ w', C w' → wpList P l.toArray Q (l.drop n) a' w') (l.take n) a) : (Code.region id l.toArray true).wp P Q a w :=
  wp_region_any hm (wpAny_quiet_tail n hB hC h)
end
end Go.Sl
namespace Go.Proofs.YtmhlebpchllpbaaGreatDoor
open Go.RowKit Go.Sl
theorem wp_region_mod_tail {P : Program} {id : Nat} {Q : Exit → Act → World → Prop} {a : Act} {w w0 : World} {S : Asn} {l : List Oper} (n : Nat) (m : Mod w w0 S) (hm : P.follows .mixedOrders = true) (hB : Region.lexTailB .any l.toArray n = true)
    (h : wpQuiet P l.toArray (fun w' => ∃ s : Held w0 S, w' = s.world) (fun a' => ∀ w', (∃ s : Held w0 S, w' = s.world) → wpList P l.toArray Q (l.drop n) a' w') (l.take n) a) : (Code.region id l.toArray true).wp P Q a w :=
  wp_region_quiet_tail (C := fun w' => ∃ s : Held w0 S, w' = s.world) n hm hB ⟨⟨w.drew, Mod.drew (m := m)⟩, rfl⟩ h
end Go.Proofs.YtmhlebpchllpbaaGreatDoor
namespace Go.Sl
open Go
section
variable {P : Program} {ops : Array Oper} {md : Region.Mode} {l n : Nat} {Q : Exit → Act → World → Prop}
theorem oper_inRound {o : Oper} {a : Act} {w : World} {next : Act → World → Prop} (hd : ∀ c, o.op ≠ .defer c) (h : o.wp P a w next Q) : o.wpIn (Fence.wide.inRound l) n P a w next Q := by
  unfold Oper.wpIn Oper.wp at *
  refine ⟨fun _ _ => trivial, ?_⟩
  rw [Oper.semAt_plain (Fence.wide.inRound l) _ _ hd]
  generalize (execOp a.eval o).run P w = r at *
  cases r with
  | ok x w' =>
    cases x with
    | value v => exact h
    | skip => exact h
    | defer d => exact h
    | enter f args => exact ⟨fun h => by simp [Fence.wide] at h, CallsIn.inRound l (callsIn_wide.2 h)⟩
    | row r args => exact ⟨fun h => by simp [Fence.wide] at h, fun c cs _ => let ⟨v, w', r, s⟩ := h c cs; ⟨v, w', r, stepsIn_wide.2 s⟩⟩
    | round => exact h.elim
    | _ => exact h
  | halt x w' => cases x <;> exact h
def noDefers (ops : Array Oper) : Bool := ops.toList.all fun o => match o.op with | .defer _ => false | _ => true
theorem noDefers_spec (h : noDefers ops = true) {i : Nat} {o : Oper} (ho : ops[i]? = some o) (c : Call) : o.op ≠ .defer c := by
  intro hc
  have := List.all_eq_true.1 h o (by
    have := Array.mem_of_getElem? ho
    exact Array.mem_def.1 this)
  rw [hc] at this
  cases this
theorem wpOp_inRound (hq : ¬ LetsOut Q) (hd : noDefers ops = true) {i : Nat} {K : Act → World → Prop} {a : Act} {w : World} (h : wpOp P ops Q i K a w) : wpOpIn (Fence.wide.inRound l) n P ops Q i K a w := by
  unfold wpOpIn
  unfold wpOp at h
  cases ho : ops[i]? with
  | none => simp only [ho] at h ⊢; exact h
  | some o =>
    simp only [ho] at h ⊢
    split
    · rename_i hw
      simp only [hw, if_true] at h
      rcases h with h | h
      · exact oper_inRound (noDefers_spec hd ho) h
      · exact absurd h.2 hq
    · rename_i hw
      simp only [hw] at h
      exact ⟨fun _ _ => trivial, h⟩
theorem wpAny_inRound (hq : ¬ LetsOut Q) (hd : noDefers ops = true) : ∀ (f : Nat) (listed : Array Bool) (a : Act) (w : World), wpAny P md ops Q f listed a w → wpAnyIn (Fence.wide.inRound l) n P md ops Q f listed a w
  | 0, _, _, _, h => h
  | f + 1, _, _, _, h => ⟨h.1, fun i hi => wpOp_inRound hq hd (wpOp_mono (fun a w => wpAny_inRound hq hd f _ a w) (h.2 i hi))⟩
theorem wpOps_inRound (hq : ¬ LetsOut Q) (hd : noDefers ops = true) : ∀ (k : List Nat) (a : Act) (w : World), wpOps P ops Q k a w → wpOpsIn (Fence.wide.inRound l) n P ops Q k a w
  | [], _, _, h => h
  | i :: k, a, w, h => by
    rw [wpOps_cons] at h
    rw [wpOpsIn_cons]
    exact wpOp_inRound hq hd (wpOp_mono (fun a w => wpOps_inRound hq hd k a w) h)
end
end Go.Sl
namespace Go.Proofs.YtmhlebpchllpbaaGreatDoor
open Go.RowKit Go.Sl
theorem wpIn_region_mod_tail {P : Program} {id l0 k : Nat} {Q : Exit → Act → World → Prop} {a : Act} {w w0 : World} {S : Asn} {l : List Oper} (n : Nat) (m : Mod w w0 S) (hm : P.follows .mixedOrders = true) (hB : Region.lexTailB .any l.toArray n = true) (hd : noDefers l.toArray = true) (hq : ¬ LetsOut Q)
    (h : wpQuiet P l.toArray (fun w' => ∃ s : Held w0 S, w' = s.world) (fun a' => ∀ w', (∃ s : Held w0 S, w' = s.world) → wpList P l.toArray Q (l.drop n) a' w') (l.take n) a) : (Code.region id l.toArray true).wpIn (Fence.wide.inRound l0) k P Q a w :=
  wpIn_region_any hm (wpAny_inRound hq hd _ _ _ _ (wpAny_quiet_tail (C := fun w' => ∃ s : Held w0 S, w' = s.world) n hB ⟨⟨w.drew, Mod.drew (m := m)⟩, rfl⟩ h))
/-- In whatever order, S behind every operation but number n, behind which nothing is asked. -/
def wpAnyN (P : Program) (md : Region.Mode) (ops : Array Oper) (Q : Exit → Act → World → Prop) (S : World → Prop) (n : Nat) : Nat → Array Bool → Act → World → Prop
  | 0, listed, a, w => Region.ready md ops listed = [] ∧ Q .normal a w
  | f + 1, listed, a, w => (Region.ready md ops listed = [] → Q .normal a w) ∧ ∀ i ∈ Region.ready md ops listed, wpOp P ops Q i (fun a' w' => (i = n ∨ S w') ∧ wpAnyN P md ops Q S n f (listed.setIfInBounds i true) a' w') a w
def waitsFor (md : Region.Mode) (ops : Array Oper) (n i : Nat) : Bool := match ops[n]? with
  | some o => o.after.any fun e => Region.binds md e && e.on == i
  | none => false
section
variable {P : Program} {ops : Array Oper} {Q : Exit → Act → World → Prop} {md : Region.Mode} {S : World → Prop} {n : Nat}
theorem wpAny_of_N : ∀ (f : Nat) (listed : Array Bool) (a : Act) (w : World), wpAnyN P md ops Q S n f listed a w → wpAny P md ops Q f listed a w
  | 0, _, _, _, h => h
  | f + 1, _, _, _, h => ⟨h.1, fun i hi => wpOp_mono (fun a' w' h' => wpAny_of_N f _ a' w' h'.2) (h.2 i hi)⟩
theorem waits_not {i : Nat} {listed : Array Bool} (hw : waitsFor md ops n i = true) (hi : i ∈ Region.ready md ops listed) : n ∉ Region.ready md ops listed := fun hn => by
  obtain ⟨_, o, ho, hall⟩ := mem_ready.1 hn
  have h0 := (mem_ready.1 hi).1
  unfold waitsFor at hw
  rw [ho] at hw
  simp only [Array.any_eq_true] at hw
  obtain ⟨k, hk, he⟩ := hw
  simp only [Bool.and_eq_true, beq_iff_eq] at he
  have h1 := hall _ (Array.getElem_mem hk) he.1
  rw [he.2] at h1
  rw [getD_both h0] at h1
  cases h1
theorem wpAnyN_first {i : Nat} {oi : Oper} {v : Value} (hi : ops[i]? = some oi) (hwt : waitsFor md ops n i = true) (hin : i ≠ n) (hsel : ∀ (j : Nat) (o : Oper) cs b, ops[j]? = some o → o.op ≠ .select cs b)
    (hQ : ∀ c a w, Q (.panic c) (a.put oi.dst v) w → Q (.panic c) a w) :
    ∀ (f : Nat) (listed : Array Bool) (a : Act) (w : World),
      (∀ j oj, ops[j]? = some oj → j ≠ i → listed.getD j true = false → (∀ e ∈ oj.after, Region.binds md e = true → e.on ≠ i) → oi.apart ops oj = true) →
      i ∈ Region.ready md ops listed → YieldsIf P ops S oi v a → S w →
      wpAnyN P md ops Q S n f (listed.setIfInBounds i true) (a.put oi.dst v) w → wpAnyN P md ops Q S n (f + 1) listed a w := by
  intro f
  induction f with
  | zero =>
    intro listed a w _ hr hy hS H
    refine ⟨fun h => (by rw [h] at hr; cases hr), fun j hj => ?_⟩
    by_cases hji : j = i
    · subst hji; exact hy.wpOp hi hS ⟨.inr hS, H⟩
    · have := ready_mono hj hji
      rw [H.1] at this
      cases this
  | succ f ih =>
    intro listed a w hfree hr hy hS H
    refine ⟨fun h => (by rw [h] at hr; cases hr), fun j hj => ?_⟩
    by_cases hji : j = i
    · subst hji; exact hy.wpOp hi hS ⟨.inr hS, H⟩
    · have hjn : j ≠ n := fun e => waits_not hwt hr (e ▸ hj)
      have h1 := H.2 j (ready_mono hj hji)
      obtain ⟨hjun, oj, hoj, hall⟩ := mem_ready.1 hj
      have hnot : ∀ e ∈ oj.after, Region.binds md e = true → e.on ≠ i := fun e he hb heq => by
        have h1 := hall e he hb
        rw [heq, getD_both (mem_ready.1 hr).1] at h1
        cases h1
      have h2 := wpOp_putIf hoj (hfree j oj hoj hji hjun hnot) (fun cs b => hsel i oi cs b hi) (fun cs b => hsel j oj cs b hoj) hQ hy h1
      have hfree' : ∀ k ok, ops[k]? = some ok → k ≠ i → (listed.setIfInBounds j true).getD k true = false →
          (∀ e ∈ ok.after, Region.binds md e = true → e.on ≠ i) → oi.apart ops ok = true := fun k ok hk hki hun hno => by
        refine hfree k ok hk hki ?_ hno
        by_cases hjk : j = k
        · subst hjk; exact hjun
        · rw [getD_set_ne true hjk] at hun; exact hun
      refine wpOp_mono (fun a' w' h3 => ?_) h2
      have hS' : S w' := h3.2.1.resolve_left hjn
      refine ⟨.inr hS', ih (listed.setIfInBounds j true) a' w' hfree' (ready_mono hr (Ne.symm hji)) h3.1 hS' ?_⟩
      rw [Array.setIfInBounds_comm _ _ hji]
      exact h3.2.2
/-- Number i is taken first; the slot is handed in. -/
theorem take_at (i : Nat) (d : Option Tmp) {oi : Oper} {v : Value} {f : Nat} {listed : Array Bool} {a : Act} {w : World} (hi : ops[i]? = some oi) (hd : oi.dst = d) (hwt : waitsFor md ops n i = true) (hin : i ≠ n)
    (hs : Region.noSelect ops = true) (hf : Region.free md ops listed i = true) (hr : (Region.ready md ops listed).contains i = true)
    (hQ : ∀ c a w, Q (.panic c) (a.put oi.dst v) w → Q (.panic c) a w) (hy : YieldsIf P ops S oi v a) (hS : S w)
    (h : wpAnyN P md ops Q S n f (listed.setIfInBounds i true) (a.put d v) w) : wpAnyN P md ops Q S n (f + 1) listed a w := by
  subst hd
  exact wpAnyN_first hi hwt hin (Region.noSelect_spec hs) hQ f listed a w (Region.free_spec hi hf) (by simpa using hr) hy hS h
def AllReadyN (P : Program) (md : Region.Mode) (ops : Array Oper) (Q : Exit → Act → World → Prop) (S : World → Prop) (n f : Nat) (listed : Array Bool) (a : Act) (w : World) (rs : List Nat) : Prop :=
  ∀ i ∈ rs, wpOp P ops Q i (fun a' w' => (i = n ∨ S w') ∧ wpAnyN P md ops Q S n f (listed.setIfInBounds i true) a' w') a w
theorem AllReadyN.nil {f : Nat} {listed : Array Bool} {a : Act} {w : World} : AllReadyN P md ops Q S n f listed a w [] := fun _ h => by cases h
theorem AllReadyN.cons (d : Option Tmp) {f : Nat} {listed : Array Bool} {a : Act} {w : World} {i : Nat} {o : Oper} {rs : List Nat} (ho : ops[i]? = some o) (hd : o.dst = d) (hg : o.guard = none)
    (h : ∀ K' : Act → World → Prop, Shut (∀ v w, S w → (S w → wpAnyN P md ops Q S n f (listed.setIfInBounds i true) (a.put d v) w) → K' (a.put d v) w) → Oper.wp P o a w K' Q)
    (hs : AllReadyN P md ops Q S n f listed a w rs) : AllReadyN P md ops Q S n f listed a w (i :: rs) := fun j hj => by
  rcases List.mem_cons.1 hj with rfl | hj
  · subst hd
    refine wpOp_step ho (fun K' hK => ?_)
    have : Region.wanted o (yielded ops a.tmps) = true := by unfold Region.wanted; rw [hg]
    rw [if_pos this]
    exact h K' (fun v w hS hW => hK _ w ⟨.inr hS, hW hS⟩)
  · exact hs j hj
theorem AllReadyN.last (d : Option Tmp) {f : Nat} {listed : Array Bool} {a : Act} {w : World} {o : Oper} (ho : ops[n]? = some o) (hd : o.dst = d) (hg : o.guard = none)
    (h : ∀ K' : Act → World → Prop, Shut (∀ v w, wpAnyN P md ops Q S n f (listed.setIfInBounds n true) (a.put d v) w → K' (a.put d v) w) → Oper.wp P o a w K' Q) : AllReadyN P md ops Q S n f listed a w [n] := fun j hj => by
  obtain rfl := List.mem_singleton.1 hj
  subst hd
  refine wpOp_step ho (fun K' hK => ?_)
  have : Region.wanted o (yielded ops a.tmps) = true := by unfold Region.wanted; rw [hg]
  rw [if_pos this]
  exact h K' (fun v w hW => hK _ w ⟨.inl rfl, hW⟩)
theorem wpAnyN_ready {rs : List Nat} {f : Nat} {listed : Array Bool} {a : Act} {w : World} (hr : Region.ready md ops listed = rs) (hne : rs ≠ [])
    (h : AllReadyN P md ops Q S n f listed a w rs) : wpAnyN P md ops Q S n (f + 1) listed a w := ⟨fun h0 => absurd (hr ▸ h0) hne, hr ▸ h⟩
theorem wpAnyN_done {listed : Array Bool} {a : Act} {w : World} (hr : Region.ready md ops listed = []) (h : Q .normal a w) : wpAnyN P md ops Q S n 0 listed a w := ⟨hr, h⟩
end
theorem wpIn_region_N {P : Program} {id l0 k : Nat} {ops : Array Oper} {Q : Exit → Act → World → Prop} {a : Act} {w : World} (n : Nat) (S : World → Prop) (hm : P.follows .mixedOrders = true) (hd : noDefers ops = true) (hq : ¬ LetsOut Q) (hS : S w.drew)
    (h : S w.drew → wpAnyN P .any ops Q S n ops.size (Array.replicate ops.size false) a w.drew) : (Code.region id ops true).wpIn (Fence.wide.inRound l0) k P Q a w :=
  wpIn_region_any hm (wpAny_inRound hq hd _ _ _ _ (wpAny_of_N _ _ _ _ (h hS)))
theorem wp_region_N {P : Program} {id : Nat} {ops : Array Oper} {Q : Exit → Act → World → Prop} {a : Act} {w : World} (n : Nat) (S : World → Prop) (hm : P.follows .mixedOrders = true) (hS : S w.drew)
    (h : S w.drew → wpAnyN P .any ops Q S n ops.size (Array.replicate ops.size false) a w.drew) : (Code.region id ops true).wp P Q a w :=
  wp_region_any hm (wpAny_of_N _ _ _ _ (h hS))
/-- append of a slice that is read onto a row of one's own, at one operation. -/
theorem wp_append_row {P : Program} {w w0 : World} {S0 F : Asn} {o : Oper} {a : Act} {K : Act → World → Prop} {Q : Exit → Act → World → Prop} {s x : Operand} {t : TypeId} {e : TypeId} {bytes : Nat} [T : RowT P t e bytes]
    (ho : o.op = .call { callee := .builtin .append, args := #[s, x], argTypes := #[t, t] }) (m : Mod w w0 S0) {v : Value} {n : Nat} {xs : List Value} (hs : a.eval s = v) [tk : Take S0 (fun q : Nat × List Value => rowA e 1 v q.1 q.2) (n, xs) F]
    {A : Option Addr} {k c : Nat} {news : List Value} (hx : a.eval x = .slice A k c) [r : Reads S0 A k news] (h1 : ∀ u ∈ news, u.oneCell' = true) (h63 : n + k ≤ maxLen) (hbytes : (n + k) * bytes ≤ 140737488355328)
    (h : ∀ A' c' w', Mod w' w0 (rowA e 1 (.slice A' (n + k) c') (n + k) (xs ++ news) * F) → K (a.put o.dst (.slice A' (n + k) c')) w') : o.wp P a w K Q := by
  obtain ⟨i, z, hi, hz, hsize, hby, hzs⟩ := T.get
  have e0 : S0 = rowA e 1 v n xs * F := tk.eq
  obtain ⟨v', w', hrun, m', _⟩ := run_append_row (P := P) (S := S0) t o.type e i z bytes T.ht hi hz hsize hby hzs v n xs (Mod.to e0 (m := m)) A k c news h1 h63 hbytes
  unfold Oper.wp execOp
  simp only [ho, resolve, invoke, builtin, Sem.run_bind, Sem.run_pure, Result.andThen_ok, List.map_toArray, List.map_cons, List.map_nil, hs, hx, hrun]
  have hv2 : ∃ A' c', v' = .slice A' (n + k) c' := by
    rcases (owns_of_row m').2 with ⟨h1, h2⟩ | ⟨g, cap, cur, h1, _⟩
    · exact ⟨none, 0, by rw [h1, h2]⟩
    · exact ⟨_, _, h1⟩
  obtain ⟨A', c', rfl⟩ := hv2
  exact h A' c' w' m'
theorem wpIn_region_list {P : Program} {id l0 k : Nat} {Q : Exit → Act → World → Prop} {a : Act} {w : World} {l : List Oper} (hd : noDefers l.toArray = true) (hq : ¬ LetsOut Q) (h : wpList P l.toArray Q l a w) : (Code.region id l.toArray false).wpIn (Fence.wide.inRound l0) k P Q a w :=
  wpIn_region (wpOps_inRound hq hd _ _ _ (by rw [List.range_eq_range', List.size_toArray, wpOps_eq_wpList l 0 (by simp)]; exact h))
end Go.Proofs.YtmhlebpchllpbaaGreatDoor
namespace Go.Proofs.YtmhlebpchllpbaaGreatDoor
open Go.RowKit Go.Sl
attribute [local go_sem] cell_of frozen_of zero_names eql_nil_bytes
theorem gap_spec (p : Nat) (w w0 : World) (S : Asn) (m : Mod w w0 S) (hp : p ≤ 9223372036854775807) : Calls Tryz.prog 102 #[.int .i64 (p : Int)] w fun e w' => e = .returned (.int .i64 (gapOf p : Int)) ∧ Mod w' w0 S := by
  by_cases h : 128 - p % 128 ≤ 7
  · have hg : (gapOf p : Int) = 128 - (p : Int) % 128 := by unfold gapOf; rw [if_pos h]; omega
    have HG := Lib.hid hg
    clear hg
    go_enter Tryz.func102, Tryz.ntmps102
    go_wp2
    go_ret
    exact ⟨by rw [HG.out]; rfl, m⟩
  · have hg : gapOf p = 0 := by unfold gapOf; rw [if_neg h]
    have HG := Lib.hid hg
    clear hg
    go_enter Tryz.func102, Tryz.ntmps102
    go_wp2
    go_ret
    exact ⟨by rw [HG.out]; rfl, m⟩
theorem or_byte (v c : Nat) (hv : v < 16777216) (hc : c < 256) : bits .or .u32 ((v : Int) * 256) (c : Int) = ((v * 256 + c : Nat) : Int) := by
  have e1 : ((v : Int) * 256) = ((v * 256 : Nat) : Int) := by omega
  rw [e1, u32_or_nat _ _ (by omega) (by omega), nat_join 8 (v * 256) c (by omega) (by omega)]
/-- the first bytes as a number -/
def upto4 (l : List UInt8) (k : Nat) : Nat := (l.take k).foldl (fun n c => n * 256 + c.toNat) 0
theorem upto4_succ (l : List UInt8) (k : Nat) : k < l.length → upto4 l (k + 1) = upto4 l k * 256 + (l.getD k 0).toNat := fun h => by
  unfold upto4
  rw [List.take_succ_eq_append_getElem h, List.foldl_append, List.getD_eq_getElem?_getD, List.getElem?_eq_getElem h]
  rfl
theorem upto4_lt (l : List UInt8) : ∀ k, k < 4 → upto4 l k < 16777216 := by
  have key : ∀ k, k ≤ l.length → upto4 l k < 256 ^ k := by
    intro k
    induction k with
    | zero => intro _; simp [upto4]
    | succ k ih =>
      intro h
      rw [upto4_succ l k (by omega)]
      have h1 := ih (by omega)
      have h2 := (l.getD k 0).toNat_lt
      rw [Nat.pow_succ]; omega
  intro k hk
  by_cases h : k ≤ l.length
  · exact Nat.lt_of_lt_of_le (key k h) (Nat.pow_le_pow_right (by omega) (show k ≤ 3 by omega))
  · have e : upto4 l k = upto4 l l.length := by unfold upto4; rw [List.take_of_length_le (by omega), List.take_length]
    rw [e]
    exact Nat.lt_of_lt_of_le (key _ (Nat.le_refl _)) (Nat.pow_le_pow_right (by omega) (show l.length ≤ 3 by omega))
set_option maxHeartbeats 2000000 in
theorem getFour_spec (B : Option Addr) (n c : Nat) (a0 a1 a2 a3 : UInt8) (l : List UInt8) (w w0 : World) (S : Asn) (m : Mod w w0 S) (r : Reads S B n (u8s (a0 :: a1 :: a2 :: a3 :: l))) (hn : n ≤ 9223372036854775807) (hc : n ≤ c) :
    Calls Tryz.prog 103 #[.slice B n c] w fun e w' => e = .returned (.tuple #[.int .u32 (four4 a0 a1 a2 a3 : Int), .int .i64 0]) ∧ Mod w' w0 S := by
  have hl := reads_len m r
  rw [length_u8s] at hl
  simp only [List.length_cons] at hl
  go_enter Tryz.func103, Tryz.ntmps103
  have hB : ∃ b1 o1, B = some ⟨b1, o1, none⟩ ∧ ∀ j u, (u8s (a0 :: a1 :: a2 :: a3 :: l))[j]? = some u → w.cell? ⟨b1, o1 + j, none⟩ = some u := by
    obtain ⟨ad, hB, hsp, hc⟩ := reads_cell m r (by omega)
    obtain ⟨b1, o1, sp1⟩ := ad
    simp only at hsp
    subst hsp
    exact ⟨b1, o1, hB, hc⟩
  obtain ⟨b1, o1, rfl, hc⟩ := hB
  have hx : ∀ k : Nat, k < 4 → ∃ x : UInt8, w.cell? ⟨b1, o1 + k, none⟩ = some (.int .u8 (x.toNat : Int)) ∧ upto4 [a0, a1, a2, a3] (k + 1) = upto4 [a0, a1, a2, a3] k * 256 + x.toNat := fun k hk => by
    have e : ∀ k, k < 4 → ∃ x : UInt8, (u8s (a0 :: a1 :: a2 :: a3 :: l))[k]? = some (.int .u8 (x.toNat : Int)) ∧ upto4 [a0, a1, a2, a3] (k + 1) = upto4 [a0, a1, a2, a3] k * 256 + x.toNat := by
      intro k hk
      match k, hk with
      | 0, _ => exact ⟨a0, rfl, rfl⟩
      | 1, _ => exact ⟨a1, rfl, rfl⟩
      | 2, _ => exact ⟨a2, rfl, rfl⟩
      | 3, _ => exact ⟨a3, rfl, rfl⟩
    obtain ⟨x, h1, h2⟩ := e k hk
    exact ⟨x, hc k _ h1, h2⟩
  have Hx := Lib.hid hx
  have H4 : Hid (upto4 [a0, a1, a2, a3] 4 = four4 a0 a1 a2 a3) := by
    show _ = _
    simp only [upto4, four4, List.take, List.foldl_cons, List.foldl_nil]; omega
  have Hlt := Lib.hid (upto4_lt [a0, a1, a2, a3])
  clear hx hc
  generalize [a0, a1, a2, a3] = L at *
  go_wp2
  go_loopg [2, 12] 4 (fun gk v i wr => ∃ k : Nat, k ≤ 4 ∧ gk = 4 - k ∧ i = .int .i64 (k : Int) ∧ v = .int .u32 ((upto4 L k : Nat) : Int) ∧ wr = w)
  case atStart => exact ⟨0, by omega, rfl, rfl, rfl, rfl⟩
  case round =>
    obtain ⟨k, hk, hgk, rfl, rfl, rfl⟩ := hrel
    by_cases hlt : k < 4
    · obtain ⟨x, hcell, hs⟩ := Hx.out k hlt
      have Hs := Lib.hid hs
      clear hs
      have hki : (k : Int) < 4 := by omega
      have hb := Hlt.out k hlt
      have hcl := x.toNat_lt
      generalize upto4 L k = v at *
      have Hor := Lib.hid (or_byte v x.toNat hb hcl)
      go_wp2
      go_roundg (4 - (k + 1))
      case measure => omega
      case rel => exact ⟨k + 1, by omega, rfl, by go_num, by rw [Hs.out, Hor.out], rfl⟩
    · have hk4 : k = 4 := by omega
      subst hk4
      rw [H4.out]
      go_wp2
      go_ret2
      exact ⟨rfl, m⟩
theorem row_cut {w w0 : World} {F : Asn} {e : TypeId} {A : Option Addr} {n c : Nat} {xs : List Value} (m : Mod w w0 (rowA e 1 (.slice A n c) n xs * F)) : Mod w w0 (rowA e 1 (.slice A 0 c) 0 [] * F) := by
  refine Mod.conv (S := rowA e 1 (.slice A n c) n xs * F) (m := m) fun _ h => sep_imp (A := rowA e 1 (.slice A n c) n xs) (fun y hy => ?_) h
  rcases hy.2 with ⟨h1, h2, h3⟩ | ⟨g, cap, cur, h1, h2, h3, h4, h5, h6⟩
  · injection h1 with h1 _ h4
    subst h1 h4
    exact ⟨rfl, .inl ⟨rfl, rfl, h3⟩⟩
  · injection h1 with h1 _ h7
    subst h1 h7
    exact ⟨rfl, .inr ⟨g, c, cur, rfl, Nat.zero_le _, h3, h4, by simp, h6⟩⟩
theorem made_u8s (n : Nat) : (madeCells #[.int .u8 0] n).toList = u8s (List.replicate n 0) := by
  apply List.ext_getElem
  · simp [madeCells, u8s]
  · intro i h1 h2
    simp [madeCells, u8s, Nat.mod_one]
attribute [local go_sem] make_bytes
set_option maxRecDepth 10000 in
set_option maxHeartbeats 2000000 in
theorem grow_nil (n : Nat) (w w0 : World) (S : Asn) (m : Mod w w0 S) (hn : n ≤ 140737488355328) : Calls Tryz.prog 172 #[.slice none 0 0, .int .i64 (n : Int)] w fun e w' => ∃ A' c, e = .returned (.slice A' 0 c) ∧ Mod w' w0 (rowA 5 1 (.slice A' 0 c) 0 [] * S) := by
  rcases Nat.eq_zero_or_pos n with h0 | h0
  · subst h0
    go_enter Tryz.func172, Tryz.ntmps172
    go_wp2
    go_ret
    exact ⟨none, 0, rfl, row_none m⟩
  · have hni : (0 : Int) < (n : Int) := by omega
    obtain ⟨i, hi, hz, hs, hb⟩ := info_u8
    go_enter Tryz.func172, Tryz.ntmps172
    have hrun := Lib.run_append_nil_zeros (P := Tryz.prog) w 63 3 63 5 i (.int .u8 0) .i64 .i64 Tryz.underlying63 Tryz.underlying3 hi hz n h0 (by omega) (by omega) (by rw [hb]; omega)
    generalize hv : (Value.slice (some ⟨w.heap.size, 0, none⟩) n (grownCap w n 0 5)) = v at hrun
    generalize hw : (w.drew.alloc (.cells (Builtin.zeroCells (Value.int .u8 0).cells n ++ Builtin.zeroCells (Value.int .u8 0).cells (grownCap w n 0 5 - n)) 5)) = w2 at hrun
    go_wp2_with (at_builtin; refine Lib.wpList_append_run w rfl _ _ 63 3 rfl (.slice none 0 0) (.int .i64 (n : Int)) rfl rfl v w2 hrun ?_; subst hv)
    subst hw
    go_ret
    refine ⟨_, _, rfl, ?_⟩
    have hge := grownCap_ge w n 0 5
    have hle := grownCap_le_maxLen w n 0 5 (by unfold maxLen; omega)
    have ma : Mod (w.drew.alloc (.cells (Builtin.zeroCells (Value.int .u8 0).cells n ++ Builtin.zeroCells (Value.int .u8 0).cells (grownCap w n 0 5 - n)) 5)) w0 (blk w.heap.size (.cells (Builtin.zeroCells (Value.int .u8 0).cells n ++ Builtin.zeroCells (Value.int .u8 0).cells (grownCap w n 0 5 - n)) 5 (0, 0)) * S) := Mod.alloc (m := Mod.drew (m := m)) (hn := ⟨rfl⟩) _
    refine Mod.conv (m := ma) fun _ h => sep_imp (A' := rowA 5 1 (.slice (some ⟨w.heap.size, 0, none⟩) 0 (grownCap w n 0 5)) 0 []) (fun y hy => ⟨rfl, .inr ⟨w.heap.size, _, _, rfl, Nat.zero_le _, hle, ?_, by simp, hy⟩⟩) h
    rw [Array.size_append, size_zeroCells, size_zeroCells]
    show n * 1 + (grownCap w n 0 5 - n) * 1 = _
    omega
theorem grow_int (n : Nat) (N : Int) (hN : N = n) (w w0 : World) (S : Asn) (m : Mod w w0 S) (hn : n ≤ 140737488355328) : Calls Tryz.prog 172 #[.slice none 0 0, .int .i64 N] w fun e w' => ∃ A' c, e = .returned (.slice A' 0 c) ∧ Mod w' w0 (rowA 5 1 (.slice A' 0 c) 0 [] * S) := by
  subst hN; exact grow_nil n w w0 S m hn
set_option maxRecDepth 10000 in
set_option maxHeartbeats 2000000 in
theorem concat_two (B : Option Addr) (n c : Nat) (xs : List UInt8) (g : Nat) (ys : List UInt8) (w w0 : World) (S : Asn) (m : Mod w w0 S) (r : Reads S B n (u8s xs)) (g2 : Nat) (k c2 : Nat) (hh : Has S g (.cells #[.slice B n c, .slice (some ⟨g2, 0, none⟩) k c2] 63 (0, 0))) (r2 : Reads S (some ⟨g2, 0, none⟩) k (u8s ys)) (hn : n + k ≤ 140737488355328) :
    Calls Tryz.prog 145 #[.slice (some ⟨g, 0, none⟩) 2 2] w fun e w' => ∃ A' c', e = .returned (.slice A' (n + k) c') ∧ Mod w' w0 (rowA 5 1 (.slice A' (n + k) c') (n + k) (u8s (xs ++ ys)) * S) := by
  go_enter Tryz.func145, Tryz.ntmps145
  go_wp2
  refine wp_loop_rounds 3 ?_
  rw [rounds_succ]
  go_wp2
  rw [rounds_succ]
  go_wp2
  rw [rounds_succ]
  go_wp2_with (go_at_call 172; refine (grow_int (n + k) _ (by omega) _ w0 S m hn).mono ?_; rintro e w1 ⟨A0, c0, rfl, m1⟩)
  refine wp_loop_rounds 3 ?_
  rw [rounds_succ]
  go_wp2_with (at_builtin; (refine wpList_append (v := .slice A0 0 c0) (A := B) (k := n) (c := c) (news := u8s xs) (r := inferInstance) rfl rfl m1 rfl rfl (one_u8s _) (by unfold maxLen; omega) (by omega) ?_); intro A1 c1 w2 m2; simp only [Nat.zero_add, List.nil_append, emp_sep] at m2)
  rw [rounds_succ]
  go_wp2_with (at_builtin; (refine wpList_append (v := .slice A1 n c1) (A := some ⟨g2, 0, none⟩) (k := k) (c := c2) (news := u8s ys) (r := inferInstance) rfl rfl m2 rfl rfl (one_u8s _) (by unfold maxLen; omega) (by omega) ?_); intro A2 c3 w3 m3; simp only [emp_sep] at m3)
  rw [rounds_succ]
  go_wp2
  go_ret
  refine ⟨A2, c3, rfl, ?_⟩
  rw [u8s_append]
  exact m3
theorem join_two (B : Option Addr) (n c : Nat) (xs : List UInt8) (g : Nat) (ys : List UInt8) (w w0 : World) (S : Asn) (m : Mod w w0 S) (r : Reads S B n (u8s xs)) (g2 : Nat) (k c2 : Nat) (hh : Has S g (.cells #[.slice B n c, .slice (some ⟨g2, 0, none⟩) k c2] 63 (0, 0))) (r2 : Reads S (some ⟨g2, 0, none⟩) k (u8s ys)) (hn : n + k ≤ 140737488355328) :
    Calls Tryz.prog 114 #[.slice (some ⟨g, 0, none⟩) 2 2] w fun e w' => ∃ A' c', e = .returned (.slice A' (n + k) c') ∧ Mod w' w0 (rowA 5 1 (.slice A' (n + k) c') (n + k) (u8s (xs ++ ys)) * S) := by
  go_enter Tryz.func114, Tryz.ntmps114
  go_wp2_with (go_at_call 145; refine (concat_two B n c xs g ys _ w0 S m r g2 k c2 hh r2 hn).mono ?_; rintro e w1 ⟨A0, c0, rfl, m1⟩)
  go_ret
  exact ⟨A0, c0, rfl, m1⟩
theorem four_cells (v : Nat) (hv : v < 4294967296) : #[Value.int .u8 ((v : Int) / 16777216), .int .u8 ((v : Int) / 65536 % 256), .int .u8 ((v : Int) / 256 % 256), .int .u8 ((v : Int) % 256)].toList = u8s (four v) := by
  have e : v / 16777216 % 256 = v / 16777216 := by omega
  simp [u8s, four, e]
set_option maxHeartbeats 2000000 in
theorem putFour_spec (B : Option Addr) (n c : Nat) (xs : List UInt8) (v : Nat) (hv : v < 4294967296) (w w0 : World) (S : Asn) (m : Mod w w0 S) (r : Reads S B n (u8s xs)) (hn : n + 4 ≤ 140737488355328) :
    Calls Tryz.prog 120 #[.slice B n c, .int .u32 (v : Int)] w fun e w' => ∃ A' c', e = .returned (.slice A' (n + 4) c') ∧ Mod w' w0 (rowA 5 1 (.slice A' (n + 4) c') (n + 4) (u8s (xs ++ four v)) * S) := by
  go_enter Tryz.func120, Tryz.ntmps120
  go_wp2_with (go_at_call 114; refine (join_two B n c xs _ (four v) _ w0 _ inferInstance inferInstance w.heap.size 4 4 inferInstance (reads_blk (four_cells v hv) rfl) hn).mono ?_; rintro e w1 ⟨A0, c0, rfl, m1⟩)
  go_ret
  exact ⟨A0, c0, rfl, repack1 (rowQ 5 1 (.slice A0 (n + 4) c0)) m1⟩
end Go.Proofs.YtmhlebpchllpbaaGreatDoor
namespace Go.Proofs.YtmhlebpchllpbaaGreatDoor
open Go.RowKit Go.Sl
/-- A part as the iterator hands it over: its kind, where its bytes lie, its bytes, and how many bytes are skipped ahead of it. -/
structure Pt where
  kind : UInt8
  at_ : Option Addr
  n : Nat
  cap : Nat
  piece : List UInt8
  gap : Nat
def Pt.out (x : Pt) : List UInt8 := zeros x.gap ++ partB x.kind x.piece
def Pt.vals (x : Pt) : Array Value := #[.int .u8 (x.kind.toNat : Int), .slice x.at_ x.n x.cap]
def emits (l : List Pt) : List UInt8 := l.flatMap Pt.out
theorem emits_nil : emits [] = [] := rfl
theorem emits_snoc (l : List Pt) (x : Pt) : emits (l ++ [x]) = emits l ++ x.out := by simp [emits]
/-- what is still to come -/
def toCome (p : Nat) (begun : Bool) (r : List UInt8) : List UInt8 := if begun && r.isEmpty then [] else writ p (!begun) r
theorem toCome_start (p : Nat) (r : List UInt8) : toCome p false r = writ p true r := rfl
theorem toCome_end (p : Nat) : toCome p true [] = [] := rfl
theorem toCome_step (p : Nat) (begun : Bool) (r : List UInt8) (h : begun = false ∨ 0 < r.length) :
    toCome p begun r = zeros (gapOf p) ++ partB (kindOf (!begun) (decide (fits p r = r.length))) (r.take (fits p r)) ++ toCome (p + gapOf p + 7 + fits p r) true (r.drop (fits p r)) := by
  have e : toCome p begun r = writ p (!begun) r := by
    unfold toCome
    rw [if_neg]
    intro hb
    simp only [Bool.and_eq_true, List.isEmpty_iff] at hb
    rcases h with h | h
    · rw [h] at hb; cases hb.1
    · rw [hb.2] at h; simp at h
  rw [e, writ_eq, List.append_assoc]
  congr 2
  have hl := fits_le p r
  by_cases hf : fits p r = r.length
  · rw [if_pos hf, hf, List.drop_length]; rfl
  · rw [if_neg hf]
    unfold toCome
    rw [if_neg]
    · rfl
    · intro hb
      simp only [Bool.true_and, List.isEmpty_iff] at hb
      have := congrArg List.length hb
      rw [List.length_drop, List.length_nil] at this
      omega
theorem length_writ_le : ∀ (n : Nat) (p : Nat) (first : Bool) (r : List UInt8), r.length ≤ n → (writ p first r).length ≤ 15 * r.length + 14
  | 0, p, first, r, h => by
    have hr : r = [] := List.eq_nil_of_length_eq_zero (by omega)
    subst hr
    have hf : fits p [] = 0 := by simp [fits]
    have := gapOf_le p
    rw [writ_eq, hf]
    simp [zeros, partB_length]; omega
  | n + 1, p, first, r, h => by
    have hg := gapOf_le p
    have hl := fits_le p r
    rw [writ_eq]
    by_cases hf : fits p r = r.length
    · rw [if_pos hf]
      simp [zeros, partB_length]; omega
    · rw [if_neg hf]
      have hp := fits_pos p r (by omega)
      have ih := length_writ_le n (p + gapOf p + 7 + fits p r) false (r.drop (fits p r)) (by rw [List.length_drop]; omega)
      rw [List.length_drop] at ih
      simp only [List.length_append, zeros, List.length_replicate, partB_length, length_take_fits]
      omega
theorem writ_length_le (p : Nat) (r : List UInt8) : (writ p true r).length ≤ 15 * r.length + 14 := length_writ_le r.length p true r (Nat.le_refl _)
/-- What may come next. -/
structure Next (G : Asn) (p : Nat) (rec : List UInt8) (pre : List Pt) (x : Pt) : Prop where
  reads : Reads G x.at_ x.n (u8s x.piece)
  len : x.piece.length = x.n
  cap : x.n ≤ x.cap
  gap : x.gap = gapOf (p + (emits pre).length)
  small : x.n ≤ 121
  tail : ∃ rest, writ p true rec = emits pre ++ (x.out ++ rest)
theorem Next.length {G : Asn} {p : Nat} {rec : List UInt8} {pre : List Pt} {x : Pt} (h : Next G p rec pre x) : (emits pre).length + x.gap + 7 + x.n ≤ 15 * rec.length + 14 := by
  obtain ⟨rest, e⟩ := h.tail
  have h1 := writ_length_le p rec
  rw [e] at h1
  simp only [List.length_append, Pt.out, zeros, List.length_replicate, partB_length, h.len] at h1
  omega
end Go.Proofs.YtmhlebpchllpbaaGreatDoor
namespace Go.Proofs.YtmhlebpchllpbaaGreatDoor
open Go.RowKit Go.Sl Go.Shelf
attribute [local go_sem] cell_of frozen_of zero_names eql_nil_bytes Oper.semAt_some
theorem parts_spec (p : Nat) (B : Option Addr) (n c : Nat) (w w0 : World) (S : Asn) (m : Mod w w0 S) :
    Calls Tryz.prog 119 #[.int .i64 (p : Int), .slice B n c] w fun e w' => ∃ pa pr, e = .returned (.func (.func 155) #[] #[ptr pr, ptr pa]) ∧ Mod w' w0 (blk pr (.cells #[.slice B n c] 63 (0, 0)) * (blk pa (.cells #[.int .i64 (p : Int)] 3 (0, 0)) * S)) := by
  go_enter Tryz.func119, Tryz.ntmps119
  go_wp2
  go_ret
  exact ⟨_, _, rfl, inferInstance⟩
def kindCells (begun : Bool) : Array Value := #[.int .u8 ((kindOf (!begun) false).toNat : Int), .int .u8 ((kindOf (!begun) true).toNat : Int)]
theorem gap_int (N : Int) (p : Nat) (hN : N = p) (w w0 : World) (S : Asn) (m : Mod w w0 S) (hp : p ≤ 9223372036854775807) : Calls Tryz.prog 102 #[.int .i64 N] w fun e w' => e = .returned (.int .i64 (gapOf p : Int)) ∧ Mod w' w0 S := by
  subst hN; exact gap_spec p w w0 S m hp
theorem reads_cut {G : Asn} {B : Option Addr} {n c : Nat} {l : List UInt8} (h : Reads G B n (u8s l)) {k : Nat} (hk : k ≤ n) (hc : n ≤ c) : Reads G (if c = k then B else B.map (fun x => x.add k)) (n - k) (u8s (l.drop k)) := by
  by_cases e : c = k
  · rw [if_pos e]
    have hn : n - k = 0 := by omega
    rw [hn]
    refine ⟨fun x hx => ?_, fun x hx h0 => by omega⟩
    have := h.len x hx
    rw [length_u8s] at this ⊢
    rw [List.length_drop]; omega
  · rw [if_neg e]
    have := h.part k (n - k) (by omega)
    have e2 : ((u8s l).drop k).take (n - k) = u8s (l.drop k) → Reads G (B.map (fun x => x.add k)) (n - k) (u8s (l.drop k)) := fun e => e ▸ this
    refine ⟨fun x hx => ?_, fun x hx h0 => ?_⟩
    · have := h.len x hx
      rw [length_u8s] at this ⊢
      rw [List.length_drop]; omega
    · have hl := h.len x hx
      rw [length_u8s] at hl
      refine (e2 ?_).cell x hx h0
      rw [List.take_of_length_le (by rw [List.length_drop, length_u8s]; omega)]
      simp [u8s]
set_option maxHeartbeats 2000000 in
theorem partsF_seq (G : Asn) (pa pr p n c : Nat) (B : Option Addr) (rec : List UInt8) (r : Reads G B n (u8s rec)) (hn : rec.length = n) (hc : n ≤ c) (hb : p + 15 * n + 14 ≤ 4611686018427387904) (w0 : World) :
    SeqSl Tryz.prog w0 155 #[ptr pr, ptr pa] Pt.vals (fun _ => True) (blk pr (.cells #[.slice B n c] 63 (0, 0)) * blk pa (.cells #[.int .i64 (p : Int)] 3 (0, 0))) (fun _ => emp) (fun xs => emits xs = writ p true rec) (fun _ => True) (Next G p rec) := by
  intro l J Jx W _ hR m
  show Calls Tryz.prog 155 #[.func (.yield l) #[] #[], ptr pr, ptr pa] W _
  go_enter Tryz.func155, Tryz.ntmps155
  go_wp2
  go_loopg [5] (n + 1) (fun gk b wr => ∃ (pre : List Pt) (q : Nat) (begun : Bool) (Br : Option Addr) (nr cr : Nat) (rest : List UInt8), gk = nr + (if begun then 0 else 1) ∧ b = .bool begun ∧ nr ≤ cr ∧ rest.length = nr ∧ Reads G Br nr (u8s rest) ∧ Hid (q = p + (emits pre).length) ∧ Hid (writ p true rec = emits pre ++ toCome q begun rest) ∧
    Mod wr w0 (J pre * (blk pr (.cells #[.slice Br nr cr] 63 (0, 0)) * (blk pa (.cells #[.int .i64 (q : Int)] 3 (0, 0)) * blk W.heap.size (.cells (kindCells begun) 207 (0, 0))))))
  case atStart =>
    refine ⟨[], p, false, B, n, c, rec, rfl, rfl, hc, hn, r, rfl, rfl, ?_⟩
    exact Mod.to (m := (inferInstance : Mod _ w0 (blk W.heap.size (.cells (kindCells false) 207 (0, 0)) * (J [] * (blk pr (.cells #[.slice B n c] 63 (0, 0)) * blk pa (.cells #[.int .i64 (p : Int)] 3 (0, 0))))))) (by ac_rfl)
  case round =>
    obtain ⟨pre, q, begun, Br, nr, cr, rest, hgk, rfl, hcr, hrl, hr, Hq, Ht, m2⟩ := hrel
    by_cases hgo : begun = false ∨ 0 < nr
    · have hte := congrArg List.length Ht.out
      rw [toCome_step q begun rest (by rw [hrl]; exact hgo)] at hte
      have hwl := writ_length_le p rec
      simp only [List.length_append, zeros, List.length_replicate, partB_length] at hte
      rw [length_take_fits] at hte
      have hq0 := Hq.out
      have hqb : q + gapOf q + 7 + fits q rest ≤ 4611686018427387904 := by omega
      have hrp := room_pos q
      have hgl := gapOf_le q
      clear hte hwl hq0
      have hkc : ∃ a b : UInt8, kindCells begun = #[.int .u8 (a.toNat : Int), .int .u8 (b.toNat : Int)] ∧ Hid (a = kindOf (!begun) false) ∧ Hid (b = kindOf (!begun) true) := ⟨_, _, rfl, rfl, rfl⟩
      obtain ⟨a, b, hk, Ha, Hb⟩ := hkc
      rw [hk] at m2
      clear hk
      have Hgk := Lib.hid hgk
      clear hgk
      have Hrl := Lib.hid hrl
      clear hrl
      obtain ⟨k, Hk⟩ : ∃ k, Hid (k = fits q rest) := ⟨_, rfl⟩
      rw [← Hk.out] at hqb
      have hmin : min (nr : Int) (128 - ((q : Int) + (gapOf q : Int)) % 128 - 7) = (k : Int) := by rw [Hk.out]; unfold fits; rw [Hrl.out]; omega
      have hkn : k ≤ nr := by rw [Hk.out, ← Hrl.out]; exact fits_le q rest
      have HN : Hid (∀ kd, kd = kindOf (!begun) (decide (k = nr)) → Next G p rec pre ⟨kd, Br, k, cr, rest.take k, gapOf q⟩) := fun kd hkd => by
        have hst := toCome_step q begun rest (by rw [Hrl.out]; exact hgo)
        rw [← Hk.out, Hrl.out, ← hkd] at hst
        refine ⟨by have := hr.pre k hkn; rwa [show (u8s rest).take k = u8s (rest.take k) from by simp [u8s]] at this, by show (rest.take k).length = k; rw [List.length_take, Hrl.out]; omega, by show k ≤ cr; omega, by show gapOf q = gapOf (p + (emits pre).length); rw [← Hq.out], by show k ≤ 121; rw [Hk.out]; exact fits_room q rest, toCome (q + gapOf q + 7 + k) true (rest.drop k), ?_⟩
        rw [Ht.out, hst]; simp only [Pt.out, List.append_assoc]
      by_cases hw : k = nr
      · have HKD : Hid (b = kindOf (!begun) (decide (k = nr))) := by show _ = _; rw [decide_eq_true hw]; exact Hb.out
        have hwb : ((k : Int) == (nr : Int)) = true := by rw [beq_iff_eq]; omega
        clear hw
        cases begun
        · go_wp2_with fail
          obtain ⟨SS, hSS, mSS⟩ : ∃ SS, SS = _ ∧ Mod wr w0 SS := ⟨_, rfl, m2⟩
          have hpa : Has SS pa (.cells #[.int .i64 (q : Int)] 3 (0, 0)) := by rw [hSS]; infer_instance
          have HC : Hid (∀ u, Mod u w0 SS → Calls Tryz.prog 102 #[.int .i64 (q : Int)] u fun e w' => e = .returned (.int .i64 (gapOf q : Int)) ∧ Mod w' w0 SS) := fun u mu => gap_spec q u w0 SS mu (by omega)
          have HSS := Lib.hid hSS
          clear hSS
          have := Held.some mSS
          refine wp_region_mod_tail 4 mSS (by kernel_rfl) (by kernel_rfl) ?_
          simp only [List.take_succ_cons, List.take_zero, List.drop_succ_cons, List.drop_zero]
          repeat (go_big_quiet_step ((go_at_call 102; refine quiet_call (HC.out _ ?_); exact inferInstance)))
          refine wpQuiet_nil ?_
          rintro w3 ⟨s, rfl⟩
          have m3 := s.mod
          clear HC mSS hpa m2
          generalize s.world = w3 at *
          rw [HSS.out] at m3
          clear HSS this s
          go_upto_region 9 with (fail)
          have m4 : Mod (w3.setCell ⟨pa, 0, none⟩ (.int .i64 ((q : Int) + (gapOf q : Int)))) w0 (J pre * (blk pr (.cells #[.slice Br nr cr] 63 (0, 0)) * (blk pa (.cells #[.int .i64 ((q : Int) + (gapOf q : Int))] 3 (0, 0)) * blk W.heap.size (.cells #[.int .u8 (a.toNat : Int), .int .u8 (b.toNat : Int)] 207 (0, 0))))) :=
            Mod.to (m := (inferInstance : Mod (w3.setCell ⟨pa, 0, none⟩ (.int .i64 ((q : Int) + (gapOf q : Int)))) w0 (blk pa (.cells #[.int .i64 ((q : Int) + (gapOf q : Int))] 3 (0, 0)) * (J pre * (blk pr (.cells #[.slice Br nr cr] 63 (0, 0)) * (emp * blk W.heap.size (.cells #[.int .u8 (a.toNat : Int), .int .u8 (b.toNat : Int)] 207 (0, 0)))))))) (by rw [emp_sep]; ac_rfl)
          clear m3
          generalize w3.setCell ⟨pa, 0, none⟩ (.int .i64 ((q : Int) + (gapOf q : Int))) = W1 at *
          obtain ⟨fn, tmps, assign, body, hy, hRd⟩ := hR pre ⟨b, Br, k, cr, rest.take k, gapOf q⟩ _ W1 (HN.out b HKD.out) m4
          have hy : (Instr.yield l #[.int .u8 (b.toNat : Int), .slice Br k cr]).run Tryz.prog W1 = .ok (.round l fn tmps assign body) W1 := hy
          refine (wpIn_wide (n := 6)).1 ?_
          gi_wp2
          refine hRd.mono ?_
          rintro e W3 (⟨rfl, m5⟩ | ⟨rfl, m5⟩)
          · gi_wp2
            clear hRd hy hR HN m4
            go_wp2_with fail
            have hr2 := reads_cut hr hkn hcr
            go_region
            generalize (if cr = k then Br else Br.map (fun x => x.add k)) = B2 at *
            go_wp2_with fail
            have m6 : Mod (((((W3.setCell ⟨pa, 0, none⟩ (.int .i64 ((q : Int) + (gapOf q : Int) + 7 + (k : Int)))).setCell ⟨pr, 0, none⟩ (.slice B2 (nr - k) (cr - k))).setCell ⟨W.heap.size, 0, none⟩ (.int .u8 3)).setCell ⟨W.heap.size, 1, none⟩ (.int .u8 4)).drew) w0 _ := inferInstance
            go_roundg (nr - k)
            case measure => rw [Hgk.out]; simp; omega
            case rel =>
              refine ⟨pre ++ [⟨b, Br, k, cr, rest.take k, gapOf q⟩], q + gapOf q + 7 + k, true, _, nr - k, cr - k, rest.drop k, rfl, rfl, by omega, by rw [List.length_drop, Hrl.out], hr2, ?_, ?_, Mod.to (m := m6) ?_⟩
              · show _ = _
                rw [emits_snoc, List.length_append, ← Nat.add_assoc, ← Hq.out]
                simp only [Pt.out, List.length_append, zeros, List.length_replicate, partB_length, List.length_take, Hrl.out]
                omega
              · show _ = _
                rw [Ht.out, toCome_step q _ rest (by rw [Hrl.out]; exact .inl rfl), ← Hk.out, Hrl.out, ← HKD.out, emits_snoc]
                simp only [Pt.out, List.append_assoc]
              · rw [show ((q + gapOf q + 7 + k : Nat) : Int) = (q : Int) + (gapOf q : Int) + 7 + (k : Int) from by omega]
                simp only [emp_sep, sep_emp]
                ac_rfl
          · gi_wp2
            go_wp2
            refine bodyPost_ret (results_none rfl _ _ _) rfl ?_
            exact ⟨⟨_, rfl⟩, .inr ⟨_, trivial, Mod.to (m := Mod.dropR (m := m5)) (sep_emp _).symm⟩⟩
        · have h0 : 0 < nr := by simpa using hgo
          go_wp2_with fail
          obtain ⟨SS, hSS, mSS⟩ : ∃ SS, SS = _ ∧ Mod wr w0 SS := ⟨_, rfl, m2⟩
          have hpa : Has SS pa (.cells #[.int .i64 (q : Int)] 3 (0, 0)) := by rw [hSS]; infer_instance
          have HC : Hid (∀ u, Mod u w0 SS → Calls Tryz.prog 102 #[.int .i64 (q : Int)] u fun e w' => e = .returned (.int .i64 (gapOf q : Int)) ∧ Mod w' w0 SS) := fun u mu => gap_spec q u w0 SS mu (by omega)
          have HSS := Lib.hid hSS
          clear hSS
          have := Held.some mSS
          refine wp_region_mod_tail 4 mSS (by kernel_rfl) (by kernel_rfl) ?_
          simp only [List.take_succ_cons, List.take_zero, List.drop_succ_cons, List.drop_zero]
          repeat (go_big_quiet_step ((go_at_call 102; refine quiet_call (HC.out _ ?_); exact inferInstance)))
          refine wpQuiet_nil ?_
          rintro w3 ⟨s, rfl⟩
          have m3 := s.mod
          clear HC mSS hpa m2
          generalize s.world = w3 at *
          rw [HSS.out] at m3
          clear HSS this s
          go_upto_region 9 with (fail)
          have m4 : Mod (w3.setCell ⟨pa, 0, none⟩ (.int .i64 ((q : Int) + (gapOf q : Int)))) w0 (J pre * (blk pr (.cells #[.slice Br nr cr] 63 (0, 0)) * (blk pa (.cells #[.int .i64 ((q : Int) + (gapOf q : Int))] 3 (0, 0)) * blk W.heap.size (.cells #[.int .u8 (a.toNat : Int), .int .u8 (b.toNat : Int)] 207 (0, 0))))) :=
            Mod.to (m := (inferInstance : Mod (w3.setCell ⟨pa, 0, none⟩ (.int .i64 ((q : Int) + (gapOf q : Int)))) w0 (blk pa (.cells #[.int .i64 ((q : Int) + (gapOf q : Int))] 3 (0, 0)) * (J pre * (blk pr (.cells #[.slice Br nr cr] 63 (0, 0)) * (emp * blk W.heap.size (.cells #[.int .u8 (a.toNat : Int), .int .u8 (b.toNat : Int)] 207 (0, 0)))))))) (by rw [emp_sep]; ac_rfl)
          clear m3
          generalize w3.setCell ⟨pa, 0, none⟩ (.int .i64 ((q : Int) + (gapOf q : Int))) = W1 at *
          obtain ⟨fn, tmps, assign, body, hy, hRd⟩ := hR pre ⟨b, Br, k, cr, rest.take k, gapOf q⟩ _ W1 (HN.out b HKD.out) m4
          have hy : (Instr.yield l #[.int .u8 (b.toNat : Int), .slice Br k cr]).run Tryz.prog W1 = .ok (.round l fn tmps assign body) W1 := hy
          refine (wpIn_wide (n := 6)).1 ?_
          gi_wp2
          refine hRd.mono ?_
          rintro e W3 (⟨rfl, m5⟩ | ⟨rfl, m5⟩)
          · gi_wp2
            clear hRd hy hR HN m4
            go_wp2_with fail
            have hr2 := reads_cut hr hkn hcr
            go_region
            generalize (if cr = k then Br else Br.map (fun x => x.add k)) = B2 at *
            go_wp2_with fail
            have m6 : Mod (((((W3.setCell ⟨pa, 0, none⟩ (.int .i64 ((q : Int) + (gapOf q : Int) + 7 + (k : Int)))).setCell ⟨pr, 0, none⟩ (.slice B2 (nr - k) (cr - k))).setCell ⟨W.heap.size, 0, none⟩ (.int .u8 3)).setCell ⟨W.heap.size, 1, none⟩ (.int .u8 4)).drew) w0 _ := inferInstance
            go_roundg (nr - k)
            case measure => rw [Hgk.out]; simp only [if_true]; have := fits_pos q rest (by rw [Hrl.out]; omega); rw [← Hk.out] at this; omega
            case rel =>
              refine ⟨pre ++ [⟨b, Br, k, cr, rest.take k, gapOf q⟩], q + gapOf q + 7 + k, true, _, nr - k, cr - k, rest.drop k, rfl, rfl, by omega, by rw [List.length_drop, Hrl.out], hr2, ?_, ?_, Mod.to (m := m6) ?_⟩
              · show _ = _
                rw [emits_snoc, List.length_append, ← Nat.add_assoc, ← Hq.out]
                simp only [Pt.out, List.length_append, zeros, List.length_replicate, partB_length, List.length_take, Hrl.out]
                omega
              · show _ = _
                rw [Ht.out, toCome_step q _ rest (by rw [Hrl.out]; exact .inr h0), ← Hk.out, Hrl.out, ← HKD.out, emits_snoc]
                simp only [Pt.out, List.append_assoc]
              · rw [show ((q + gapOf q + 7 + k : Nat) : Int) = (q : Int) + (gapOf q : Int) + 7 + (k : Int) from by omega]
                simp only [emp_sep, sep_emp]
                ac_rfl
          · gi_wp2
            go_wp2
            refine bodyPost_ret (results_none rfl _ _ _) rfl ?_
            exact ⟨⟨_, rfl⟩, .inr ⟨_, trivial, Mod.to (m := Mod.dropR (m := m5)) (sep_emp _).symm⟩⟩
      · have HKD : Hid (a = kindOf (!begun) (decide (k = nr))) := by show _ = _; rw [decide_eq_false hw]; exact Ha.out
        have hwb : ((k : Int) == (nr : Int)) = false := beq_eq_false_iff_ne.2 (by omega)
        cases begun
        · go_wp2_with fail
          obtain ⟨SS, hSS, mSS⟩ : ∃ SS, SS = _ ∧ Mod wr w0 SS := ⟨_, rfl, m2⟩
          have hpa : Has SS pa (.cells #[.int .i64 (q : Int)] 3 (0, 0)) := by rw [hSS]; infer_instance
          have HC : Hid (∀ u, Mod u w0 SS → Calls Tryz.prog 102 #[.int .i64 (q : Int)] u fun e w' => e = .returned (.int .i64 (gapOf q : Int)) ∧ Mod w' w0 SS) := fun u mu => gap_spec q u w0 SS mu (by omega)
          have HSS := Lib.hid hSS
          clear hSS
          have := Held.some mSS
          refine wp_region_mod_tail 4 mSS (by kernel_rfl) (by kernel_rfl) ?_
          simp only [List.take_succ_cons, List.take_zero, List.drop_succ_cons, List.drop_zero]
          repeat (go_big_quiet_step ((go_at_call 102; refine quiet_call (HC.out _ ?_); exact inferInstance)))
          refine wpQuiet_nil ?_
          rintro w3 ⟨s, rfl⟩
          have m3 := s.mod
          clear HC mSS hpa m2
          generalize s.world = w3 at *
          rw [HSS.out] at m3
          clear HSS this s
          go_upto_region 9 with (fail)
          have m4 : Mod (w3.setCell ⟨pa, 0, none⟩ (.int .i64 ((q : Int) + (gapOf q : Int)))) w0 (J pre * (blk pr (.cells #[.slice Br nr cr] 63 (0, 0)) * (blk pa (.cells #[.int .i64 ((q : Int) + (gapOf q : Int))] 3 (0, 0)) * blk W.heap.size (.cells #[.int .u8 (a.toNat : Int), .int .u8 (b.toNat : Int)] 207 (0, 0))))) :=
            Mod.to (m := (inferInstance : Mod (w3.setCell ⟨pa, 0, none⟩ (.int .i64 ((q : Int) + (gapOf q : Int)))) w0 (blk pa (.cells #[.int .i64 ((q : Int) + (gapOf q : Int))] 3 (0, 0)) * (J pre * (blk pr (.cells #[.slice Br nr cr] 63 (0, 0)) * (emp * blk W.heap.size (.cells #[.int .u8 (a.toNat : Int), .int .u8 (b.toNat : Int)] 207 (0, 0)))))))) (by rw [emp_sep]; ac_rfl)
          clear m3
          generalize w3.setCell ⟨pa, 0, none⟩ (.int .i64 ((q : Int) + (gapOf q : Int))) = W1 at *
          obtain ⟨fn, tmps, assign, body, hy, hRd⟩ := hR pre ⟨a, Br, k, cr, rest.take k, gapOf q⟩ _ W1 (HN.out a HKD.out) m4
          have hy : (Instr.yield l #[.int .u8 (a.toNat : Int), .slice Br k cr]).run Tryz.prog W1 = .ok (.round l fn tmps assign body) W1 := hy
          refine (wpIn_wide (n := 6)).1 ?_
          gi_wp2
          refine hRd.mono ?_
          rintro e W3 (⟨rfl, m5⟩ | ⟨rfl, m5⟩)
          · gi_wp2
            clear hRd hy hR HN m4
            go_wp2_with fail
            have hr2 := reads_cut hr hkn hcr
            go_region
            generalize (if cr = k then Br else Br.map (fun x => x.add k)) = B2 at *
            go_wp2_with fail
            have m6 : Mod (((((W3.setCell ⟨pa, 0, none⟩ (.int .i64 ((q : Int) + (gapOf q : Int) + 7 + (k : Int)))).setCell ⟨pr, 0, none⟩ (.slice B2 (nr - k) (cr - k))).setCell ⟨W.heap.size, 0, none⟩ (.int .u8 3)).setCell ⟨W.heap.size, 1, none⟩ (.int .u8 4)).drew) w0 _ := inferInstance
            go_roundg (nr - k)
            case measure => rw [Hgk.out]; simp; omega
            case rel =>
              refine ⟨pre ++ [⟨a, Br, k, cr, rest.take k, gapOf q⟩], q + gapOf q + 7 + k, true, _, nr - k, cr - k, rest.drop k, rfl, rfl, by omega, by rw [List.length_drop, Hrl.out], hr2, ?_, ?_, Mod.to (m := m6) ?_⟩
              · show _ = _
                rw [emits_snoc, List.length_append, ← Nat.add_assoc, ← Hq.out]
                simp only [Pt.out, List.length_append, zeros, List.length_replicate, partB_length, List.length_take, Hrl.out]
                omega
              · show _ = _
                rw [Ht.out, toCome_step q _ rest (by rw [Hrl.out]; exact .inl rfl), ← Hk.out, Hrl.out, ← HKD.out, emits_snoc]
                simp only [Pt.out, List.append_assoc]
              · rw [show ((q + gapOf q + 7 + k : Nat) : Int) = (q : Int) + (gapOf q : Int) + 7 + (k : Int) from by omega]
                simp only [emp_sep, sep_emp]
                ac_rfl
          · gi_wp2
            go_wp2
            refine bodyPost_ret (results_none rfl _ _ _) rfl ?_
            exact ⟨⟨_, rfl⟩, .inr ⟨_, trivial, Mod.to (m := Mod.dropR (m := m5)) (sep_emp _).symm⟩⟩
        · have h0 : 0 < nr := by simpa using hgo
          go_wp2_with fail
          obtain ⟨SS, hSS, mSS⟩ : ∃ SS, SS = _ ∧ Mod wr w0 SS := ⟨_, rfl, m2⟩
          have hpa : Has SS pa (.cells #[.int .i64 (q : Int)] 3 (0, 0)) := by rw [hSS]; infer_instance
          have HC : Hid (∀ u, Mod u w0 SS → Calls Tryz.prog 102 #[.int .i64 (q : Int)] u fun e w' => e = .returned (.int .i64 (gapOf q : Int)) ∧ Mod w' w0 SS) := fun u mu => gap_spec q u w0 SS mu (by omega)
          have HSS := Lib.hid hSS
          clear hSS
          have := Held.some mSS
          refine wp_region_mod_tail 4 mSS (by kernel_rfl) (by kernel_rfl) ?_
          simp only [List.take_succ_cons, List.take_zero, List.drop_succ_cons, List.drop_zero]
          repeat (go_big_quiet_step ((go_at_call 102; refine quiet_call (HC.out _ ?_); exact inferInstance)))
          refine wpQuiet_nil ?_
          rintro w3 ⟨s, rfl⟩
          have m3 := s.mod
          clear HC mSS hpa m2
          generalize s.world = w3 at *
          rw [HSS.out] at m3
          clear HSS this s
          go_upto_region 9 with (fail)
          have m4 : Mod (w3.setCell ⟨pa, 0, none⟩ (.int .i64 ((q : Int) + (gapOf q : Int)))) w0 (J pre * (blk pr (.cells #[.slice Br nr cr] 63 (0, 0)) * (blk pa (.cells #[.int .i64 ((q : Int) + (gapOf q : Int))] 3 (0, 0)) * blk W.heap.size (.cells #[.int .u8 (a.toNat : Int), .int .u8 (b.toNat : Int)] 207 (0, 0))))) :=
            Mod.to (m := (inferInstance : Mod (w3.setCell ⟨pa, 0, none⟩ (.int .i64 ((q : Int) + (gapOf q : Int)))) w0 (blk pa (.cells #[.int .i64 ((q : Int) + (gapOf q : Int))] 3 (0, 0)) * (J pre * (blk pr (.cells #[.slice Br nr cr] 63 (0, 0)) * (emp * blk W.heap.size (.cells #[.int .u8 (a.toNat : Int), .int .u8 (b.toNat : Int)] 207 (0, 0)))))))) (by rw [emp_sep]; ac_rfl)
          clear m3
          generalize w3.setCell ⟨pa, 0, none⟩ (.int .i64 ((q : Int) + (gapOf q : Int))) = W1 at *
          obtain ⟨fn, tmps, assign, body, hy, hRd⟩ := hR pre ⟨a, Br, k, cr, rest.take k, gapOf q⟩ _ W1 (HN.out a HKD.out) m4
          have hy : (Instr.yield l #[.int .u8 (a.toNat : Int), .slice Br k cr]).run Tryz.prog W1 = .ok (.round l fn tmps assign body) W1 := hy
          refine (wpIn_wide (n := 6)).1 ?_
          gi_wp2
          refine hRd.mono ?_
          rintro e W3 (⟨rfl, m5⟩ | ⟨rfl, m5⟩)
          · gi_wp2
            clear hRd hy hR HN m4
            go_wp2_with fail
            have hr2 := reads_cut hr hkn hcr
            go_region
            have hck : ¬ cr = k := by omega
            rw [if_neg hck] at hr2
            generalize Br.map (fun x => x.add k) = B2 at *
            clear hck
            go_wp2_with fail
            have m6 : Mod (((((W3.setCell ⟨pa, 0, none⟩ (.int .i64 ((q : Int) + (gapOf q : Int) + 7 + (k : Int)))).setCell ⟨pr, 0, none⟩ (.slice B2 (nr - k) (cr - k))).setCell ⟨W.heap.size, 0, none⟩ (.int .u8 3)).setCell ⟨W.heap.size, 1, none⟩ (.int .u8 4)).drew) w0 _ := inferInstance
            go_roundg (nr - k)
            case measure => rw [Hgk.out]; simp only [if_true]; have := fits_pos q rest (by rw [Hrl.out]; omega); rw [← Hk.out] at this; omega
            case rel =>
              refine ⟨pre ++ [⟨a, Br, k, cr, rest.take k, gapOf q⟩], q + gapOf q + 7 + k, true, _, nr - k, cr - k, rest.drop k, rfl, rfl, by omega, by rw [List.length_drop, Hrl.out], hr2, ?_, ?_, Mod.to (m := m6) ?_⟩
              · show _ = _
                rw [emits_snoc, List.length_append, ← Nat.add_assoc, ← Hq.out]
                simp only [Pt.out, List.length_append, zeros, List.length_replicate, partB_length, List.length_take, Hrl.out]
                omega
              · show _ = _
                rw [Ht.out, toCome_step q _ rest (by rw [Hrl.out]; exact .inr h0), ← Hk.out, Hrl.out, ← HKD.out, emits_snoc]
                simp only [Pt.out, List.append_assoc]
              · rw [show ((q + gapOf q + 7 + k : Nat) : Int) = (q : Int) + (gapOf q : Int) + 7 + (k : Int) from by omega]
                simp only [emp_sep, sep_emp]
                ac_rfl
          · gi_wp2
            go_wp2
            refine bodyPost_ret (results_none rfl _ _ _) rfl ?_
            exact ⟨⟨_, rfl⟩, .inr ⟨_, trivial, Mod.to (m := Mod.dropR (m := m5)) (sep_emp _).symm⟩⟩
    · have hb : begun = true := by cases begun <;> simp_all
      have h0 : nr = 0 := by omega
      subst hb h0
      have hre : rest = [] := List.eq_nil_of_length_eq_zero hrl
      have Hte : Hid (writ p true rec = emits pre) := by
        show _ = _
        rw [Ht.out, hre, toCome_end, List.append_nil]
      clear Ht hre hgo hgk
      go_wp2
      go_end0
      exact ⟨⟨_, rfl⟩, .inl ⟨pre, Hte.out.symm, Mod.to (m := Mod.dropR (m := m2)) (sep_emp _).symm⟩⟩
end Go.Proofs.YtmhlebpchllpbaaGreatDoor
namespace Go.Proofs.YtmhlebpchllpbaaGreatDoor
open Go.RowKit Go.Sl
attribute [local go_sem] cell_of frozen_of zero_names
def tabCells (k : Nat) : Array Value := ((List.range 256).map fun i => if i < k then Value.int .u32 ((crcTab i).toNat : Int) else .int .u32 0).toArray
def tabV : Array Value := tabCells 256
theorem tab_set (k : Nat) (_h : k < 256) : (tabCells k).setIfInBounds k (.int .u32 ((crcTab k).toNat : Int)) = tabCells (k + 1) := by
  unfold tabCells
  apply Array.ext
  · simp
  · intro i h1 h2
    simp only [List.getElem_toArray, List.getElem_map, List.getElem_range]
    by_cases e : k = i
    · subst e; simp
    · have e2 : (i < k + 1) ↔ i < k := by omega
      simp [e, e2]
theorem crcBits_succ : ∀ (k : Nat) (n : BitVec 32), crcBits (k + 1) n = crcBit (crcBits k n)
  | 0, _ => rfl
  | k + 1, n => by
    show crcBits (k + 1) (crcBit n) = crcBit (crcBits k (crcBit n))
    exact crcBits_succ k (crcBit n)
theorem lsb_mod (v : BitVec 32) : v.getLsbD 0 = decide (v.toNat % 2 = 1) := by rw [BitVec.getLsbD, Nat.testBit_zero]
theorem crc_step (v : BitVec 32) : bits .xor .u32 ((v.toNat : Int) / 2) (bits .and .u32 2197175160 (-bits .and .u32 (v.toNat : Int) 1 % 4294967296)) = ((crcBit v).toNat : Int) := by
  have hv := v.isLt
  have h1 : bits .and .u32 (v.toNat : Int) 1 = ((v.toNat % 2 : Nat) : Int) := by
    have := u32_and_nat v.toNat 1 (by omega) (by omega)
    rw [Nat.and_one_is_mod] at this
    exact this
  rw [h1, show ((v.toNat : Int) / 2) = ((v.toNat / 2 : Nat) : Int) from by omega]
  unfold crcBit
  rw [lsb_mod]
  rcases Nat.mod_two_eq_zero_or_one v.toNat with h | h
  · rw [h, show (-((0 : Nat) : Int) % 4294967296) = ((0 : Nat) : Int) from rfl, show (2197175160 : Int) = ((2197175160 : Nat) : Int) from rfl, u32_and_nat 2197175160 0 (by omega) (by omega), u32_xor_nat _ _ (by omega) (by simp)]
    simp [Nat.shiftRight_eq_div_pow]
  · rw [h, show (-((1 : Nat) : Int) % 4294967296) = ((4294967295 : Nat) : Int) from rfl, show (2197175160 : Int) = ((2197175160 : Nat) : Int) from rfl, u32_and_nat 2197175160 4294967295 (by omega) (by omega), show 2197175160 &&& 4294967295 = 2197175160 from by decide, u32_xor_nat _ _ (by omega) (by omega)]
    simp [Nat.shiftRight_eq_div_pow]
set_option maxRecDepth 100000 in
theorem und_tab : Tryz.prog.underlying 188 = some (.array 256 36) := by kernel_rfl
set_option maxRecDepth 100000 in
theorem size_tab : (Tryz.prog.info? 188).map (·.size) = some 256 := by kernel_rfl
theorem load_tab {w w0 : World} {S : Asn} {g : Nat} {cs : Array Value} {fr : Nat × Nat} [m : Mod w w0 S] [h : Has S g (.cells cs 188 fr)] (hs : cs.size = 256) : (Instr.loadAt 188 (.pointer (some ⟨g, 0, none⟩))).run Tryz.prog w = .ok (.agg cs) w := by
  have := run_loadAt_mid (P := Tryz.prog) w g 0 188 cs.toList _ (fun j v hv => by rw [Nat.zero_add, cell_of]; simpa using hv) und_tab rfl (by rw [size_tab]; simp [hs])
  simpa using this
theorem wp_load_tab {op : Oper} {a : Act} {w w0 : World} {S : Asn} {K : Act → World → Prop} {Q : Exit → Act → World → Prop} {g : Nat} {cs : Array Value} {fr : Nat × Nat} [m : Mod w w0 S] [h : Has S g (.cells cs 188 fr)] (x : Operand) (ho : op.op = .load 188 x)
    (hx : a.eval x = .pointer (some ⟨g, 0, none⟩)) (hs : cs.size = 256) (hk : K (a.put op.dst (.agg cs)) w) : op.wp Tryz.prog a w K Q := by
  refine wp_load_mid 188 x ho g 0 hx cs.toList _ (fun j v hv => by rw [Nat.zero_add, cell_of]; simpa using hv) und_tab rfl (by rw [size_tab]; simp [hs]) ?_
  simpa using hk
def setMany (cs : Array Value) : Nat → List Value → Array Value
  | _, [] => cs
  | o, v :: r => setMany (cs.setIfInBounds o v) (o + 1) r
theorem size_setMany : ∀ (l : List Value) (o : Nat) (cs : Array Value), (setMany cs o l).size = cs.size
  | [], _, _ => rfl
  | v :: r, o, cs => by simp only [setMany]; rw [size_setMany r (o + 1)]; simp
theorem get_setMany : ∀ (l : List Value) (o : Nat) (cs : Array Value) (i : Nat) (_ : i < cs.size), (setMany cs o l)[i]? = if o ≤ i ∧ i < o + l.length then l[i - o]? else cs[i]?
  | [], o, cs, i, _ => by simp [setMany]; omega
  | v :: r, o, cs, i, hi => by
    simp only [setMany]
    rw [get_setMany r (o + 1) _ i (by simpa using hi)]
    simp only [List.length_cons]
    by_cases h1 : o + 1 ≤ i ∧ i < o + 1 + r.length
    · rw [if_pos h1, if_pos (by omega), show i - o = (i - (o + 1)) + 1 by omega, List.getElem?_cons_succ]
    · rw [if_neg h1, Array.getElem?_setIfInBounds]
      by_cases h2 : o = i
      · subst h2; simp [hi]
      · rw [if_neg h2, if_neg (by omega)]
theorem setMany_all (cs cs' : Array Value) (h : cs.size = cs'.size) : setMany cs 0 cs'.toList = cs' := by
  apply Array.ext_getElem?
  intro i
  by_cases hi : i < cs.size
  · rw [get_setMany _ _ _ _ hi, if_pos (by simp; omega)]; simp
  · rw [Array.getElem?_eq_none (by rw [size_setMany]; omega), Array.getElem?_eq_none (by omega)]
theorem mod_setMany {w0 : World} {g : Nat} {ty : TypeId} {fr : Nat × Nat} {F : Asn} : ∀ (l : List Value) (o : Nat) (w : World) (cs : Array Value), Mod w w0 (blk g (.cells cs ty fr) * F) → Mod (w.setCells g o l) w0 (blk g (.cells (setMany cs o l) ty fr) * F)
  | [], _, _, _, m => m
  | v :: r, o, w, cs, m => by
    have h := Mod.setCells (i := o) v (m := m) (t := inferInstance) (g := g) (cs := cs) (ty := ty) (fr := fr)
    exact mod_setMany r (o + 1) _ _ (Mod.to (m := h) (by rw [emp_sep]))
theorem wpList_store_tab {ops : Array Oper} {rest : List Oper} {op : Oper} {a : Act} {w w0 : World} {S F : Asn} {Q : Exit → Act → World → Prop} {g : Nat} {cs cs' : Array Value} (hgd : op.guard = none) (x y : Operand) (ho : op.op = .store 188 x y) (hx : a.eval x = .pointer (some ⟨g, 0, none⟩)) (hy : a.eval y = .agg cs')
    (m : Mod w w0 S) [t : Take S (blk g) (.cells cs 188 (0, 0)) F] (hs : cs.size = 256) (hs' : cs'.size = 256) (h1 : cs'.all (·.oneCell') = true) (h : ∀ w', Mod w' w0 (blk g (.cells cs' 188 (0, 0)) * F) → wpList Tryz.prog ops Q rest (a.put op.dst undef) w') : wpList Tryz.prog ops Q (op :: rest) a w := by
  have hh : Has S g (.cells cs 188 (0, 0)) := by rw [t.eq]; infer_instance
  have m1 : Mod w w0 (blk g (.cells cs 188 (0, 0)) * F) := by rw [t.eq] at m; exact m
  refine wpList_store_mid hgd 188 x y ho g 0 cs' hx hy (fun j hj => ?_) (by rw [size_tab, hs']) h1 (h _ ?_)
  · have hc := @cell_of w w0 S g j cs 188 (0, 0) m hh
    have hf := @frozen_of w w0 S g j cs 188 m hh
    rw [Nat.zero_add, hc, hf]
    exact ⟨by rw [Array.getElem?_eq_getElem (by omega)]; rfl, rfl⟩
  · have := mod_setMany cs'.toList 0 w cs m1
    rw [setMany_all cs cs' (by omega)] at this
    exact this
theorem tab_one (k : Nat) : (tabCells k).all (·.oneCell') = true := by
  rw [Array.all_eq_true_iff_forall_mem]
  intro v hv
  unfold tabCells at hv
  simp only [List.mem_toArray, List.mem_map] at hv
  obtain ⟨i, _, rfl⟩ := hv
  split <;> rfl
theorem tab_size (k : Nat) : (tabCells k).size = 256 := by simp [tabCells]
set_option maxRecDepth 8000 in
set_option maxHeartbeats 2000000 in
theorem table_spec (w w0 : World) (S : Asn) (m : Mod w w0 S) : Calls Tryz.prog 138 #[] w fun e w' => e = .returned (.agg tabV) ∧ Mod w' w0 S := by
  go_enter Tryz.func138, Tryz.ntmps138
  go_wp2
  go_loopg [3] 256 (fun gk i wr => ∃ (k : Nat) (cs : Array Value), k ≤ 256 ∧ gk = 256 - k ∧ i = .int .i64 (k : Int) ∧ Hid (cs = tabCells k) ∧ Mod wr w0 (blk w.heap.size (.cells cs 188 (0, 0)) * S))
  case atStart => exact ⟨0, _, by omega, rfl, rfl, by show _ = _; kernel_rfl, inferInstance⟩
  case round =>
    obtain ⟨k, cs, hk, hgk, rfl, Hcs, m2⟩ := hrel
    have hcs : cs.size = 256 := by rw [Hcs.out]; exact tab_size k
    by_cases hlt : k < 256
    · have hki : (k : Int) < 256 := by omega
      go_wp2
      go_loopg [2, 8] 8 (fun gj n j wr => ∃ q : Nat, q ≤ 8 ∧ gj = 8 - q ∧ j = .int .i64 (q : Int) ∧ n = .int .u32 ((crcBits q (BitVec.ofNat 32 k)).toNat : Int) ∧ Mod wr w0 (blk w.heap.size (.cells cs 188 (0, 0)) * S))
      case atStart => exact ⟨0, by omega, rfl, rfl, by simp [crcBits]; omega, m2⟩
      case round =>
        obtain ⟨q, hq, hgj, rfl, rfl, m3⟩ := hrel
        by_cases hlq : q < 8
        · have hqi : (q : Int) < 8 := by omega
          have hv := (crcBits q (BitVec.ofNat 32 k)).isLt
          have HB := Lib.hid (crcBits_succ q (BitVec.ofNat 32 k))
          generalize crcBits q (BitVec.ofNat 32 k) = v at *
          go_wp2
          go_roundg (8 - (q + 1))
          case measure => omega
          case rel => exact ⟨q + 1, by omega, rfl, by go_num, by rw [crc_step, HB.out], m3⟩
        · have hq8 : q = 8 := by omega
          subst hq8
          go_wp2
          go_roundg (256 - (k + 1))
          case measure => omega
          case rel => exact ⟨k + 1, cs.setIfInBounds k (.int .u32 ((crcTab k).toNat : Int)), by omega, rfl, by go_num, by show _ = _; rw [Hcs.out]; exact tab_set k hlt, repack1 (blk w.heap.size) (inferInstance : Mod (wr.setCell ⟨w.heap.size, k, none⟩ (.int .u32 ((crcTab k).toNat : Int))) w0 _)⟩
    · have hk2 : k = 256 := by omega
      subst hk2
      go_wp2
      have h1 : cs.all (·.oneCell') = true := by rw [Hcs.out]; exact tab_one 256
      refine wp_load_tab _ rfl rfl hcs ?_
      rename_i hK
      refine hK _ _ ?_
      simp only [Act.put, List.setIfInBounds_toArray, List.set_cons_zero, List.set_cons_succ]
      refine wpList_store_tab rfl _ _ rfl rfl rfl m2 hcs hcs h1 fun w' m3 => ?_
      go_wp2
      refine bodyPost_ret (results_cell_row rfl _ _ w.heap.size 188 cs (0, 0) _ rfl (Mod.heap (m := m3)) und_tab rfl (by rw [size_tab, hcs])) rfl ?_
      exact ⟨by rw [Hcs.out]; rfl, Mod.sub (m := m3) S⟩
theorem not_u32 (s : BitVec 32) : bits .xor .u32 IntKind.u32.max (s.toNat : Int) = ((~~~ s).toNat : Int) := by
  have hs := s.isLt
  rw [show IntKind.u32.max = ((4294967295 : Nat) : Int) from by decide, u32_xor_nat _ _ (by omega) (by omega)]
  congr 1
theorem tab_size256 : tabV.size = 256 := tab_size 256
theorem upd_index (v : BitVec 32) (c : UInt8) : bits .xor .u8 ((v.toNat : Int) % 256) (c.toNat : Int) = ((v.toNat % 256 ^^^ c.toNat : Nat) : Int) := by
  have := c.toNat_lt
  exact u8_xor_nat (v.toNat % 256) c.toNat (by omega) (by omega)
theorem upd_lt (v : BitVec 32) (c : UInt8) : (v.toNat % 256 ^^^ c.toNat) < 256 := Nat.xor_lt_two_pow (n := 8) (by omega) c.toNat_lt
theorem upd_value (v : BitVec 32) (c : UInt8) : bits .xor .u32 ((v.toNat : Int) / 256) ((crcTab (v.toNat % 256 ^^^ c.toNat)).toNat : Int) = ((crcUpd v c).toNat : Int) := by
  have hv := v.isLt
  have := u32_xor_nat (v.toNat / 256) (crcTab (v.toNat % 256 ^^^ c.toNat)).toNat (by omega) (crcTab _).isLt
  rw [show ((v.toNat : Int) / 256) = ((v.toNat / 256 : Nat) : Int) from by omega, this]
  unfold crcUpd
  rw [BitVec.toNat_xor, BitVec.toNat_ushiftRight, Nat.shiftRight_eq_div_pow]
theorem tabV_get (i : Nat) (h : i < 256) : tabV[i]? = some (.int .u32 ((crcTab i).toNat : Int)) := by
  unfold tabV tabCells
  simp [h]
set_option maxHeartbeats 2000000 in
theorem on_spec (g : Nat) (s : BitVec 32) (B : Option Addr) (n c : Nat) (b : List UInt8) (w w0 : World) (S : Asn) (m : Mod w w0 S) (ht : Has S g (.cells tabV 188 (0, 0))) (r : Reads S B n (u8s b)) (hn : n ≤ 9223372036854775807) :
    Calls Tryz.prog 139 #[ptr g, .int .u32 (s.toNat : Int), .slice B n c] w fun e w' => e = .returned (.int .u32 ((crcOn s b).toNat : Int)) ∧ Mod w' w0 S := by
  have hl := reads_len m r
  rw [length_u8s] at hl
  have hs := s.isLt
  go_enter Tryz.func139, Tryz.ntmps139
  go_wp2
  go_loopg [7, 16] n (fun gk v i wr => ∃ k : Nat, k ≤ n ∧ gk = n - k ∧ i = .int .i64 (k : Int) ∧ v = .int .u32 ((((b.take k).foldl crcUpd (~~~ s)).toNat : Nat) : Int) ∧ Mod wr w0 S)
  case atStart => exact ⟨0, Nat.zero_le _, rfl, rfl, by rw [not_u32 s]; rfl, m⟩
  case round =>
    obtain ⟨k, hkn, hgk, rfl, rfl, m2⟩ := hrel
    by_cases hlt : k < n
    · obtain ⟨ad, hB, hsp, hc⟩ := reads_cell m2 r (by omega)
      obtain ⟨b1, o1, sp1⟩ := ad
      simp only at hsp
      subst hsp hB
      have hkl : k < b.length := by omega
      have hx := hc k (.int .u8 ((b[k].toNat : Nat) : Int)) (by simp [u8s, hkl])
      have hki : (k : Int) < (n : Int) := by omega
      have hcl := b[k].toNat_lt
      have HS : Hid ((b.take (k + 1)).foldl crcUpd (~~~ s) = crcUpd ((b.take k).foldl crcUpd (~~~ s)) b[k]) := by
        show _ = _
        rw [List.take_succ_eq_append_getElem hkl, List.foldl_append]; rfl
      clear hc
      generalize (b.take k).foldl crcUpd (~~~ s) = v at *
      generalize b[k] = c at *
      have hv := v.isLt
      have hix := upd_index v c
      have hlt2 := upd_lt v c
      have hval := upd_value v c
      have hcell := tabV_get (v.toNat % 256 ^^^ c.toNat) hlt2
      go_wp2
      go_roundg (n - (k + 1))
      case measure => omega
      case rel => exact ⟨k + 1, by omega, rfl, by go_num, by rw [HS.out], m2⟩
    · have hk2 : b.take k = b := List.take_of_length_le (by omega)
      rw [hk2] at *
      have he : bits .xor .u32 IntKind.u32.max (((b.foldl crcUpd (~~~ s)).toNat : Nat) : Int) = ((crcOn s b).toNat : Int) := not_u32 _
      go_wp2
      go_ret
      refine ⟨?_, m2⟩
      rw [← he]; rfl
theorem setCells_alloc {w : World} {ty : TypeId} {g : Nat} (hg : g = w.heap.size) : ∀ (l : List Value) (o : Nat) (cs : Array Value), (w.alloc (.cells cs ty)).setCells g o l = w.alloc (.cells (setMany cs o l) ty)
  | [], _, _ => rfl
  | v :: r, o, cs => by
    simp only [World.setCells, setMany]
    rw [World.setCell_alloc_at cs ty g o v hg]
    exact setCells_alloc hg r (o + 1) _
theorem zero_tab_size : Tryz.zeroCells188.size = 256 := by rw [show Tryz.zeroCells188 = tabCells 0 from by kernel_rfl]; exact tab_size 0
theorem store_tab (w : World) (g : Nat) [h : HpSize w g] : (storeCells ⟨g, 0, none⟩ tabV.toList).run Tryz.prog (w.alloc (.cells Tryz.zeroCells188 188)) = .ok () (w.alloc (.cells tabV 188)) := by
  have hg := h.eq
  subst hg
  have m0 : Mod (w.alloc (.cells Tryz.zeroCells188 188)) w (blk w.heap.size (.cells Tryz.zeroCells188 188 (0, 0)) * just (hp w)) := Mod.alloc (m := Mod.start w) (hn := ⟨rfl⟩) _
  have hs : tabV.size = 256 := tab_size256
  have one : ∀ v, v ∈ tabV → v.oneCell' = true := fun v hv => (Array.all_eq_true_iff_forall_mem.1 (tab_one 256)) v hv
  have h1 := run_storeCells_cells (P := Tryz.prog) w.heap.size 0 tabV.toList 0 (w.alloc (.cells Tryz.zeroCells188 188)) (fun j hj => by
    have hc := @cell_of _ w _ w.heap.size j Tryz.zeroCells188 188 (0, 0) m0 inferInstance
    have hj2 : j < Tryz.zeroCells188.size := by rw [zero_tab_size]; rw [Array.length_toList, hs] at hj; exact hj
    simp only [Nat.zero_add]
    rw [hc, Array.getElem?_eq_getElem hj2]; rfl) (fun j hj => by
    have hf := @frozen_of _ w _ w.heap.size j Tryz.zeroCells188 188 m0 inferInstance
    simp only [Nat.zero_add]
    exact hf) (fun v hv => one v (by simpa using hv))
  rw [h1, setCells_alloc rfl, setMany_all _ _ (by rw [zero_tab_size, hs])]
attribute [local go_sem] store_tab
theorem of_spec (g : Nat) (B : Option Addr) (n c : Nat) (b : List UInt8) (w w0 : World) (S : Asn) (m : Mod w w0 S) (ht : Has S g (.cells tabV 188 (0, 0))) (r : Reads S B n (u8s b)) (hn : n ≤ 9223372036854775807) :
    Calls Tryz.prog 140 #[ptr g, .slice B n c] w fun e w' => e = .returned (.int .u32 ((crcOn 0#32 b).toNat : Int)) ∧ Mod w' w0 S := by
  go_enter Tryz.func140, Tryz.ntmps140
  go_wp2_with (go_at_call 139; refine (on_spec g 0#32 B n c b _ w0 S m ht r hn).mono ?_; rintro e w1 ⟨rfl, m1⟩)
  go_ret
  exact ⟨rfl, m1⟩
set_option maxRecDepth 8000 in
set_option maxHeartbeats 2000000 in
theorem sum_spec (kind : UInt8) (B : Option Addr) (n c : Nat) (b : List UInt8) (w w0 : World) (S : Asn) (m : Mod w w0 S) (r : Reads S B n (u8s b)) (hn : n ≤ 9223372036854775807) :
    Calls Tryz.prog 104 #[.int .u8 (kind.toNat : Int), .slice B n c] w fun e w' => e = .returned (.int .u32 ((crcOf kind b).toNat : Int)) ∧ Mod w' w0 S := by
  go_enter Tryz.func104, Tryz.ntmps104
  go_wp2_with (go_at_call 138; refine (table_spec _ w0 _ inferInstance).mono ?_; rintro e w1 ⟨rfl, m1⟩)
  go_wp2_with first
    | (go_at_call 140; refine (of_spec w1.heap.size _ 1 _ [kind] _ w0 _ inferInstance inferInstance (reads_blk rfl rfl) (by omega)).mono ?_; rintro e w2 ⟨rfl, m2⟩)
    | (go_at_call 139; refine (on_spec w1.heap.size (crcOn 0#32 [kind]) B n c b _ w0 _ m2 inferInstance inferInstance hn).mono ?_; rintro e w3 ⟨rfl, m3⟩)
  go_ret
  exact ⟨rfl, Mod.sub S⟩
end Go.Proofs.YtmhlebpchllpbaaGreatDoor
namespace Go.Proofs.YtmhlebpchllpbaaGreatDoor
open Go.RowKit Go.Sl
attribute [local go_sem] cell_of frozen_of zero_names
/-- A slice of records that is read. -/
structure ReadsRecs (S : Asn) (A : Option Addr) (n : Nat) (rs : List (List UInt8)) : Prop where
  len : rs.length = n
  each : ∃ hs : List (Option Addr × Nat), hs.length = n ∧ Reads S A n ((hs.zip rs).map fun q => Value.slice q.1.1 q.2.length q.1.2) ∧ ∀ i (h1 : i < hs.length) (h2 : i < rs.length), Reads S hs[i].1 rs[i].length (u8s rs[i]) ∧ rs[i].length ≤ hs[i].2
theorem ReadsRecs.lift {S' S : Asn} {A : Option Addr} {n : Nat} {rs : List (List UInt8)} (s : Sub S' S) (r : ReadsRecs S A n rs) : ReadsRecs S' A n rs := by
  obtain ⟨h1, hs, h2, h3, h4⟩ := r
  exact ⟨h1, hs, h2, reads_lift s h3, fun i a b => ⟨reads_lift s (h4 i a b).1, (h4 i a b).2⟩⟩
theorem ReadsRecs.pre {S : Asn} {A : Option Addr} {n : Nat} {rs : List (List UInt8)} (r : ReadsRecs S A n rs) (k : Nat) (h : k ≤ n) : ReadsRecs S A k (rs.take k) := by
  obtain ⟨h1, hs, h2, h3, h4⟩ := r
  refine ⟨by rw [List.length_take]; omega, hs.take k, by rw [List.length_take]; omega, ?_, fun i a b => ?_⟩
  · have := h3.pre k h
    rw [← List.map_take] at this
    have e : (hs.zip rs).take k = (hs.take k).zip (rs.take k) := by simp only [List.zip, List.take_zipWith]
    rw [e] at this
    exact this
  · simp only [List.length_take] at a b
    rw [List.getElem_take, List.getElem_take]
    exact h4 i (by omega) (by omega)
theorem reads_rec {w w0 : World} {S : Asn} {A : Option Addr} {n : Nat} {rs : List (List UInt8)} (m : Mod w w0 S) (r : ReadsRecs S A n rs) {k : Nat} (hk : k < n) :
    ∃ b o, A = some ⟨b, o, none⟩ ∧ ∃ (h : k < rs.length) (B : Option Addr) (c : Nat), w.cell? ⟨b, o + k, none⟩ = some (.slice B rs[k].length c) ∧ Reads S B rs[k].length (u8s rs[k]) ∧ rs[k].length ≤ c := by
  obtain ⟨h1, hs, h2, h3, h4⟩ := r
  obtain ⟨ad, ha, hsp, hc⟩ := reads_cell m h3 (by omega)
  obtain ⟨b, o, sp⟩ := ad
  simp only at hsp
  subst hsp
  have hkr : k < rs.length := by omega
  have hkh : k < hs.length := by omega
  refine ⟨b, o, ha, hkr, hs[k].1, hs[k].2, hc k _ ?_, (h4 k hkh hkr).1, (h4 k hkh hkr).2⟩
  rw [List.getElem?_map, List.getElem?_eq_getElem (by simp; omega)]
  simp
theorem reads_rec_all {w w0 : World} {S : Asn} {A : Option Addr} {n : Nat} {rs : List (List UInt8)} (m : Mod w w0 S) (r : ReadsRecs S A n rs) {k : Nat} (hk : k < n) :
    ∃ b o, A = some ⟨b, o, none⟩ ∧ ∃ (h : k < rs.length) (B : Option Addr) (c : Nat), (∀ s : Held w0 S, s.world.cell? ⟨b, o + k, none⟩ = some (.slice B rs[k].length c)) ∧ Reads S B rs[k].length (u8s rs[k]) ∧ rs[k].length ≤ c := by
  obtain ⟨h1, hs, h2, h3, h4⟩ := r
  obtain ⟨ad, ha, hsp, _⟩ := reads_cell m h3 (by omega)
  obtain ⟨b, o, sp⟩ := ad
  simp only at hsp
  subst hsp
  have hkr : k < rs.length := by omega
  have hkh : k < hs.length := by omega
  refine ⟨b, o, ha, hkr, hs[k].1, hs[k].2, fun s => ?_, (h4 k hkh hkr).1, (h4 k hkh hkr).2⟩
  obtain ⟨ad2, ha2, _, hc⟩ := reads_cell s.mod h3 (by omega)
  rw [ha] at ha2
  injection ha2 with ha2
  subst ha2
  refine hc k _ ?_
  rw [List.getElem?_map, List.getElem?_eq_getElem (by simp; omega)]
  simp
def sizesR : List (List UInt8) → Nat
  | [] => 0
  | s :: l => s.length + sizesR l
/-- What the laws' RecordsSize tells: all of it, as long as it goes through. -/
def recsSize : Nat → List (List UInt8) → Nat
  | n, [] => n
  | n, s :: l => if n ≤ 1048576 then recsSize (n + s.length) l else n
theorem recsSize_gt : ∀ (l : List (List UInt8)) (n : Nat), n ≤ recsSize n l ∧ (recsSize n l ≤ 1048576 → recsSize n l = n + sizesR l)
  | [], n => ⟨Nat.le_refl _, fun _ => rfl⟩
  | s :: l, n => by
    unfold recsSize
    obtain ⟨h1, h2⟩ := recsSize_gt l (n + s.length)
    split
    · exact ⟨by omega, fun h => by rw [h2 h]; simp only [sizesR]; omega⟩
    · exact ⟨Nat.le_refl _, fun h => by omega⟩
end Go.Proofs.YtmhlebpchllpbaaGreatDoor
namespace Go.Proofs.YtmhlebpchllpbaaGreatDoor
open Go.ChangeShapes Go.WideShapes Go.ChangeAt Go.RowKit Go.Sl Go.Deep
section
variable {H : Type} {enc : TypeId × Value → H} {W : World} {base : Nat} {held : Bool}
set_option maxRecDepth 100000 in
theorem arg_records {a : Option Addr} {n c : Nat} {d : DataW H} {p : List MemPlace} (h : DataW.Trod enc Tryz.prog W base (fun _ => true) held 73 (.slice a n c) d p)
    {ts : List TypeId} {ds : List (DataW H)} (hs : (DataW.weightsEach Tryz.prog ts ds).all (· ≤ reachBytes) = true) {j : Nat} (ht : ts[j]? = some 73) (hd : ds[j]? = some d) :
    ∃ rs : List (List UInt8), ReadsRecs (just (hp W)) a n rs ∧ n ≤ c ∧ n ≤ reachBytes ∧ ∀ s ∈ rs, s.length ≤ reachBytes := by
  obtain ⟨fuel, hf⟩ := h
  rcases open_int_rows Tryz.underlying73 Tryz.underlying63 Tryz.underlying5 cells_bytes cells_u8 hf with ⟨h1, h2⟩ | ⟨a', n', c', Ad, L, C, Z, h1, _, hl, hm, h2, h3⟩
  · simp [Value.cells] at h1
    obtain ⟨rfl, rfl, rfl⟩ := h1
    exact ⟨[], ⟨rfl, [], rfl, reads_nil, by simp⟩, Nat.le_refl _, Nat.zero_le _, by simp⟩
  · simp [Value.cells] at h1
    obtain ⟨rfl, rfl, rfl⟩ := h1
    have each : ∀ r, r < n → ∃ ys : List UInt8, ys.length = L r ∧ Reads (just (hp W)) (Ad r) (L r) (u8s ys) := fun r hr => by
      obtain ⟨_, g2, _, g4, g5, g6, g7⟩ := h3 r (by omega)
      obtain ⟨ys, e1, e2⟩ := nats_u8 (xs := (Z r).take (L r)) fun y hy => g5 y (List.mem_of_mem_take hy)
      have hlen : ys.length = L r := by rw [e2, List.length_take]; omega
      refine ⟨ys, hlen, ?_⟩
      cases ha : Ad r with
      | none =>
        have hL : L r = 0 := by have := g6 ha; omega
        rw [hL] at hlen ⊢
        rw [List.eq_nil_of_length_eq_zero hlen]
        exact reads_nil
      | some ad =>
        obtain ⟨_, g8⟩ := g7 ad ha
        rw [← e1]
        refine reads_of_cells (by rw [List.length_map, List.length_take]; omega) fun i v hv => ?_
        simp only [List.getElem?_map, List.getElem?_take] at hv
        split at hv
        · rw [g8 i (by omega)]
          cases hz2 : (Z r)[i]? with
          | none => rw [hz2] at hv; cases hv
          | some z =>
            rw [hz2] at hv
            simp only [Option.map_some, Option.some.injEq] at hv
            rw [← hv, List.getD_eq_getElem?_getD, hz2]; rfl
        · cases hv
    obtain ⟨q, hq⟩ := choose_lt each
    injection h2 with hd2 _
    subst hd2
    have hn := sized_len hs ht hd Tryz.underlying73 (by rw [show Tryz.prog.bytesOf 63 = 24 from by kernel_rfl]; decide)
    rw [List.length_map, List.length_range] at hn
    have hL : ∀ i, i < n → L i ≤ reachBytes := fun i hi => by
      obtain ⟨_, g2, _, g4, _, g6, _⟩ := h3 i (by omega)
      cases ha : Ad i with
      | none => have := g6 ha; omega
      | some ad =>
        have hk := List.all_eq_true.1 hs ((L i + (C i - L i)) * Tryz.prog.bytesOf 5) (DataW.weights_mem_each ht hd _ (by
          simp only [DataW.weights, Tryz.underlying73]
          refine List.mem_cons_of_mem _ (List.mem_append_left _ (weights_elem (List.mem_map_of_mem (List.mem_range.2 hi)) ?_))
          simp only [intRow, ha, DataW.weights, Tryz.underlying63]
          refine List.mem_cons.2 (.inl ?_)
          simp only [lits, List.length_map, List.length_take, List.length_drop]
          congr 1; omega))
        have hb : Tryz.prog.bytesOf 5 = 1 := by kernel_rfl
        rw [hb] at hk
        have := of_decide_eq_true hk
        omega
    refine ⟨(List.range n).map q, ⟨by simp, (List.range n).map fun r => (Ad r, C r), by simp, ?_, fun i h1 h2 => ?_⟩, hl, hn, fun s hs => ?_⟩
    · refine reads_of_cells (by simp) fun i v hv => ?_
      by_cases hi : i < n
      · rw [List.getElem?_map, List.getElem?_eq_getElem (by simpa using hi)] at hv
        simp at hv
        rw [← hv, (hq i hi).1]
        exact (h3 i (by omega)).1
      · rw [List.getElem?_eq_none (by simpa using hi)] at hv; cases hv
    · have hi : i < n := by simpa using h1
      simp only [List.getElem_map, List.getElem_range]
      obtain ⟨e1, e2⟩ := hq i hi
      rw [e1]
      exact ⟨e2, (h3 i (by omega)).2.1⟩
    · obtain ⟨i, hi, rfl⟩ := List.mem_map.1 hs
      have hi := List.mem_range.1 hi
      rw [(hq i hi).1]; exact hL i hi
end
end Go.Proofs.YtmhlebpchllpbaaGreatDoor
