/- append(s, make([]T, k)...) on a slice of one's own, in the small separation logic: plain lemmas; the conditions are in each theorem. -/
import Derived.Lib.AppendZerosOnto
import Derived.Test.YtmpgnnjhgjfgaaaDoorRow
namespace Go.Sl
open Go Go.RowKit
theorem zeroCells_one (z : Value) (n : Nat) : (Builtin.zeroCells #[z] n).toList = List.replicate n z := by
  apply List.ext_getElem
  · simp [Builtin.zeroCells]
  · intro i h1 h2
    simp [Builtin.zeroCells, Nat.mod_one]
theorem run_append_room_zeros {P : Program} (w : World) (t tn ty e : TypeId) (i : TypeInfo) (z : Value) (kq kn : IntKind) (ht : P.underlying t = some (.slice e)) (htn : P.underlying tn = some (.int kn)) (hi : P.info? e = some i) (hz : i.zero = some z)
    (hsize : i.size = 1) (hzs : z.cells = #[z]) (h1 : z.oneCell' = true) (g n cap : Nat) (cur : Array Value) (hg : w.heap[g]? = some (.cells cur e (0, 0))) (k : Nat) (h0 : 0 < k) (hroom : n + k ≤ cap) (hfit : n + k ≤ cur.size) (hk : (k : Int) ≤ 9223372036854775807) (h48 : k * i.bytes ≤ 281474976710656) :
    (Builtin.append_ #[t, tn] ty #[.slice (some ⟨g, 0, none⟩) n cap, .int kq k]).run P w =
      .ok (.slice (some ⟨g, 0, none⟩) (n + k) cap) (w.setRow g (cur.toList.take n ++ List.replicate k z ++ cur.toList.drop (n + k)).toArray) := by
  have hst := run_storeCells_at P g (n * i.size) e (Builtin.zeroCells #[z] k).toList 0 cur w hg (by rw [zeroCells_one, List.length_replicate, hsize]; omega) (fun v hv => by rw [zeroCells_one] at hv; rw [(List.mem_replicate.1 hv).2]; exact h1)
  rw [zeroCells_one, List.length_replicate] at hst
  simp only [Nat.add_zero, hsize, Nat.mul_one] at hst
  have hk0 : k ≠ 0 := by omega
  have hw : IntKind.i64.wrap (k : Int) = k := by rw [IntKind.wrap_i64]; omega
  have hneg : ¬ ((k : Int) < 0) := by omega
  have h48i : ¬ (281474976710656 < (k : Int) * (i.bytes : Int)) := by
    rw [← Int.natCast_mul]
    omega
  simp [Builtin.append_, run_underlying ht, run_underlying htn, sizeOf, typeInfo, zeroValue, hi, hz, asInt, asIntOf, hw, hneg, hroom, hsize, hk0, h48i, hzs, zeroCells_one, Addr.add_lit, hst]
theorem run_append_row_zeros {P : Program} {w w0 : World} {F : Asn} (t tn ty e : TypeId) (i : TypeInfo) (z : Value) (kn : IntKind) (bytes : Nat) (ht : P.underlying t = some (.slice e)) (htn : P.underlying tn = some (.int kn)) (hi : P.info? e = some i) (hz : i.zero = some z)
    (hsize : i.size = 1) (hby : i.bytes = bytes) (hzs : z.cells = #[z]) (h1 : z.oneCell' = true) (v : Value) (n : Nat) (xs : List Value) (m : Mod w w0 (rowA e 1 v n xs * F)) (k : Nat) (h63 : n + k ≤ maxLen) (hbytes : (n + k) * bytes ≤ 140737488355328) :
    ∃ A' c' w', (Builtin.append_ #[t, tn] ty #[v, .int .i64 k]).run P w = .ok (.slice A' (n + k) c') w' ∧ Mod w' w0 (rowA e 1 (.slice A' (n + k) c') (n + k) (xs ++ List.replicate k z) * F) := by
  have hown := owns_of_row m
  unfold maxLen at h63
  have hw0 : IntKind.i64.wrap (0 : Int) = 0 := by decide
  rcases Nat.eq_zero_or_pos k with hk | hk
  · subst hk
    simp only [Nat.add_zero, List.replicate_zero, List.append_nil]
    rcases hown.2 with ⟨rfl, rfl⟩ | ⟨g, cap, cur, rfl, _, hh, hnc, _⟩
    · refine ⟨none, 0, w, ?_, m⟩
      simp [Builtin.append_, run_underlying ht, run_underlying htn, sizeOf, typeInfo, hi, asInt, asIntOf, hw0]
    · refine ⟨_, _, w, ?_, m⟩
      simp [Builtin.append_, run_underlying ht, run_underlying htn, sizeOf, typeInfo, hi, hnc, asInt, asIntOf, storeCells, hw0]
  · have hl := hown.1
    have h48 : k * i.bytes ≤ 281474976710656 := by
      rw [hby]
      have := Nat.mul_le_mul_right bytes (show k ≤ n + k by omega)
      omega
    have hlen : (xs ++ List.replicate k z).length = (n + k) * 1 := by rw [List.length_append, List.length_replicate, hl]; omega
    have fresh : ∀ (old : Nat) (olds : List Value), olds = xs → old < n + k → ∀ row,
        (w.drew.alloc (.cells (olds.toArray ++ Builtin.zeroCells z.cells k ++ Builtin.zeroCells z.cells (grownCap w (n + k) old e - (n + k))) e)).ownsRow 0 e 1
          (.slice (some ⟨w.heap.size, 0, none⟩) (n + k) (grownCap w (n + k) old e)) (n + k) (xs ++ List.replicate k z) ∧
        w.grownBy (w.drew.alloc (.cells (olds.toArray ++ Builtin.zeroCells z.cells k ++ Builtin.zeroCells z.cells (grownCap w (n + k) old e - (n + k))) e)) row := by
      rintro old olds rfl ho row
      have hge := grownCap_ge w (n + k) old e
      have hcm : grownCap w (n + k) old e ≤ maxLen := grownCap_le_maxLen w (n + k) old e (by unfold maxLen; omega)
      refine ⟨⟨hlen, .inr ⟨w.heap.size, _, _, rfl, Nat.zero_le _, _root_.Go.heap_alloc_new w.drew _, hge, hcm, ?_, ?_⟩⟩, ⟨rfl, rfl, rfl, by simp, fun k hk _ => _root_.Go.heap_alloc_old w.drew _ hk⟩⟩
      · simp only [Array.size_append, List.size_toArray, size_zeroCells, hzs, hl, List.size_toArray, List.length_cons, List.length_nil]
        omega
      · simp only [Array.toList_append, hzs, zeroCells_one]
        rw [← hlen]
        exact List.take_left
    rcases hown.2 with ⟨rfl, rfl⟩ | ⟨g, cap, cur, rfl, _, hh, hnc, hcm, hcs, htake⟩
    · have hxs : xs = [] := List.eq_nil_of_length_eq_zero (by simpa using hl)
      obtain ⟨f1, f2⟩ := fresh 0 [] hxs.symm (by omega) (Value.ownBlock (.slice none 0 0))
      simp only [Nat.zero_add, Array.empty_append] at f1 f2 ⊢
      have hr := Lib.run_append_nil_zeros (P := P) w t tn ty e i z .i64 kn ht htn hi hz k hk (by omega) (by omega) h48
      exact ⟨_, _, _, hr, m.rowStep f1 f2 (.inr rfl)⟩
    · by_cases hroom : n + k ≤ cap
      · have hr := run_append_room_zeros (P := P) w t tn ty e i z .i64 kn ht htn hi hz hsize hzs h1 g n cap cur hh k hk hroom (by omega) (by omega) h48
        refine ⟨_, _, _, hr, m.rowStep (v' := .slice (some ⟨g, 0, none⟩) (n + k) cap) ⟨hlen, .inr ⟨g, cap, _, rfl, Nat.zero_le _, setRow_heap w g cur _ e _ hh, hroom, hcm, ?_, ?_⟩⟩ ⟨rfl, rfl, rfl, by simp, fun k _ hk => setRow_other w g k _ (fun e => hk (by simp [Value.ownBlock, e]))⟩ (.inl rfl)⟩
        · simp only [List.size_toArray, List.length_append, List.length_take, List.length_drop, Array.length_toList, List.length_replicate]
          omega
        · rw [← hlen]
          have : cur.toList.take n = xs := by rw [← htake, Nat.mul_one]
          rw [this]
          exact List.take_left
      · have holds : ∀ j u, xs[j]? = some u → w.cell? ((⟨g, 0, none⟩ : Addr).add j) = some u := hown.cells (g := g) rfl
        have hold := run_firstCells_some (P := P) w.drew i.size n ⟨g, 0, none⟩ n cap xs (by rw [hl, hsize]) (by simpa using holds)
        have hr := Lib.run_append_grow_zeros (P := P) w t tn ty e i z .i64 kn ht htn hi hz (some ⟨g, 0, none⟩) n cap xs hold k hk (by omega) (by omega) (by omega) h48 (by rw [hby]; exact growslice_fits (by omega) hbytes)
        obtain ⟨f1, f2⟩ := fresh cap xs rfl (by omega) (Value.ownBlock (.slice (some ⟨g, 0, none⟩) n cap))
        exact ⟨_, _, _, hr, m.rowStep f1 f2 (.inr rfl)⟩
/-- append of so many zeros onto a row of one's own, at the operation. -/
theorem wpList_append_zeros {P : Program} {w w0 : World} {S0 F : Asn} {ops : Array Oper} {rest : List Oper} {o : Oper} {a : Act} {Q : Exit → Act → World → Prop} {s x : Operand} {t tn : TypeId} {e : TypeId} {bytes : Nat} [T : RowT P t e bytes] (hgd : o.guard = none)
    (ho : o.op = .call { callee := .builtin .append, args := #[s, x], argTypes := #[t, tn] }) {kn : IntKind} (htn : P.underlying tn = some (.int kn)) {i : TypeInfo} {z : Value} (hi : P.info? e = some i) (hz : i.zero = some z) (hzs : z.cells = #[z]) (h1 : z.oneCell' = true)
    (m : Mod w w0 S0) {v : Value} {n : Nat} {xs : List Value} (hs : a.eval s = v) [tk : Take S0 (fun q : Nat × List Value => rowA e 1 v q.1 q.2) (n, xs) F] {k : Nat} (hx : a.eval x = .int .i64 (k : Int)) (h63 : n + k ≤ maxLen) (hbytes : (n + k) * bytes ≤ 140737488355328)
    (h : ∀ A' c' w', Mod w' w0 (rowA e 1 (.slice A' (n + k) c') (n + k) (xs ++ List.replicate k z) * F) → wpList P ops Q rest (a.put o.dst (.slice A' (n + k) c')) w') : wpList P ops Q (o :: rest) a w := by
  obtain ⟨i', z', hi', hz', hsize, hby, _⟩ := T.get
  rw [hi] at hi'
  injection hi' with e1
  subst e1
  have e0 : S0 = rowA e 1 v n xs * F := tk.eq
  refine wpList_plain hgd fun _ hK => ?_
  obtain ⟨A', c', w', hrun, m'⟩ := run_append_row_zeros (P := P) t tn o.type e i z kn bytes T.ht htn hi hz hsize hby hzs h1 v n xs (Mod.to e0 (m := m)) k h63 hbytes
  unfold Oper.wp execOp
  simp only [ho, resolve, invoke, builtin, Sem.run_bind, Sem.run_pure, Result.andThen_ok, List.map_toArray, List.map_cons, List.map_nil, hs, hx, hrun]
  exact hK _ _ (h A' c' w' m')
end Go.Sl
