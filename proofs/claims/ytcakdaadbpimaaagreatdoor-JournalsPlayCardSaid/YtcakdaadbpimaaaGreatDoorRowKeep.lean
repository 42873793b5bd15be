/- append onto a row with the old row kept where it moves; rows of several cells as blocks: plain lemmas over the small separation logic. -/
import Derived.Test.YtcakdaadbpimaaaGreatDoorTwin
import Derived.Deep.DeepAppendRoom
namespace Go.Sl
open Go Go.RowKit
theorem row_open_n {w w0 : World} {e size : Nat} {A : Option Addr} {n c : Nat} {xs : List Value} {F : Asn} (m : Mod w w0 (rowA e size (.slice A n c) n xs * F)) (hn : 0 < n) : ∃ g cur, A = some ⟨g, 0, none⟩ ∧ n ≤ c ∧ c ≤ maxLen ∧ xs.length = n * size ∧ cur.size = c * size ∧ cur.toList.take (n * size) = xs ∧ Mod w w0 (blk g (.cells cur e (0, 0)) * F) := by
  have h := m.says
  rw [sep_assoc] at h
  obtain ⟨a, b, h1, h2, ⟨hl, h3⟩, h4⟩ := h
  rcases h3 with ⟨_, h0, _⟩ | ⟨g, cap, cur, hv, k1, k2, k3, k4, rfl⟩
  · omega
  · injection hv with e1 e2 e3
    subst e1 e3
    exact ⟨g, cur, rfl, k1, k2, hl, k3, k4, m.os, m.tape, m.output, by rw [sep_assoc]; exact ⟨_, b, h1, h2, rfl, h4⟩⟩
theorem row_shut_n {w w0 : World} {e size : Nat} {g n c : Nat} {cur : Array Value} {xs : List Value} {F : Asn} (m : Mod w w0 (blk g (.cells cur e (0, 0)) * F)) (h1 : n ≤ c) (h2 : c ≤ maxLen) (h3 : cur.size = c * size) (h4 : xs.length = n * size) (h5 : cur.toList.take (n * size) = xs) : Mod w w0 (rowA e size (.slice (some ⟨g, 0, none⟩) n c) n xs * F) := by
  refine Mod.conv (S := blk g (.cells cur e (0, 0)) * F) (m := m) fun x hx => sep_imp (A := blk g (.cells cur e (0, 0))) (fun y hy => ?_) hx
  exact ⟨h4, .inr ⟨g, c, cur, rfl, h1, h2, h3, h5, hy⟩⟩
/-- append of elements of one cell: in place, or the old row stays as it was. -/
theorem wpList_append_keep {P : Program} {w w0 : World} {F : Asn} {ops : Array Oper} {rest : List Oper} {o : Oper} {a : Act} {Q : Exit → Act → World → Prop} {s x : Operand} {t e bytes : Nat} [T : RowN P t e 1 bytes] (hgd : o.guard = none)
    (ho : o.op = .call { callee := .builtin .append, args := #[s, x], argTypes := #[t, t] }) {A0 : Option Addr} {n c0 : Nat} {xs : List Value} (m : Mod w w0 (rowA e 1 (.slice A0 n c0) n xs * F)) (hs : a.eval s = .slice A0 n c0)
    {A : Addr} {k c : Nat} {news : List Value} (hx : a.eval x = .slice (some A) k c) (r : Reads F (some A) k news) (hk : 0 < k) (h1 : ∀ u ∈ news, u.oneCell' = true) (h63 : n + k ≤ maxLen) (hbytes : (n + k) * bytes ≤ 140737488355328)
    (h : ∀ A' c' w' K, Mod w' w0 (rowA e 1 (.slice A' (n + k) c') (n + k) (xs ++ news) * (K * F)) → (A' = A0 ∨ K = rowA e 1 (.slice A0 n c0) n xs) → wpList P ops Q rest (a.put o.dst (.slice A' (n + k) c')) w') : wpList P ops Q (o :: rest) a w :=
  wpList_plain hgd fun _ hK => by
    obtain ⟨i, z, hi, hz, hsize, hby, hzs, h0⟩ := T.get
    have rS : Reads (rowA e 1 (.slice A0 n c0) n xs * F) (some A) k news := inferInstance
    have hlen := reads_len m rS
    obtain ⟨ad, ha, hsp, hc⟩ := reads_cell m rS hk
    injection ha with ha
    subst ha
    have hnews : ∀ j u, news[j]? = some u → w.cell? (A.add j) = some u := fun j u hu => by rw [add_off A j hsp]; exact hc j u hu
    have hl1 : news.length = k * 1 := by omega
    by_cases hroom : n + k ≤ c0
    · have hown := owns_of_row m
      have hA : ∃ g, A0 = some ⟨g, 0, none⟩ := by
        rcases hown.2 with ⟨h1, h2⟩ | ⟨g, cap, cur, h1, _⟩
        · injection h1 with _ _ e3; omega
        · injection h1 with e1 _ _; exact ⟨g, e1⟩
      obtain ⟨g, rfl⟩ := hA
      obtain ⟨w', hrun, h2, h3⟩ := run_append_own_spare (P := P) w 0 t o.type e i 1 T.ht hi hsize g n c0 xs hown A k c news hl1 hnews h1 hroom
      have m2 := m.rowStep h2 h3 (.inl rfl)
      unfold Oper.wp execOp
      simp only [ho, resolve, invoke, builtin, Sem.run_bind, Sem.run_pure, Result.andThen_ok, List.map_toArray, List.map_cons, List.map_nil, hs, hx, hrun]
      exact hK _ _ (h _ _ w' emp (by rw [emp_sep]; exact m2) (.inl rfl))
    · have hown := owns_of_row m
      have fin : ∀ (old : Nat) (olds : List Value), (olds.length = n) → xs = olds → (Builtin.append_ #[t, t] o.type #[.slice A0 n c0, .slice (some A) k c]).run P w = .ok (.slice (some ⟨w.heap.size, 0, none⟩) (n + k) (grownCap w (n + k) old e)) (w.drew.alloc (.cells (olds.toArray ++ news.toArray ++ Builtin.zeroCells z.cells (grownCap w (n + k) old e - (n + k))) e)) → wpList P ops Q rest (a.put o.dst (.slice (some ⟨w.heap.size, 0, none⟩) (n + k) (grownCap w (n + k) old e))) (w.drew.alloc (.cells (olds.toArray ++ news.toArray ++ Builtin.zeroCells z.cells (grownCap w (n + k) old e - (n + k))) e)) := by
        intro old olds ho hxs _
        subst hxs
        have mA : Mod (w.drew.alloc (.cells (xs.toArray ++ news.toArray ++ Builtin.zeroCells z.cells (grownCap w (n + k) old e - (n + k))) e)) w0 (blk w.heap.size (.cells (xs.toArray ++ news.toArray ++ Builtin.zeroCells z.cells (grownCap w (n + k) old e - (n + k))) e (0, 0)) * (rowA e 1 (.slice A0 n c0) n xs * F)) := by
          haveI : Mod w.drew w0 (rowA e 1 (.slice A0 n c0) n xs * F) := inferInstance
          exact Mod.alloc (w := w.drew) _ (n := w.heap.size) (hn := ⟨rfl⟩)
        refine h _ _ _ (rowA e 1 (.slice A0 n c0) n xs) (row_shut_n (size := 1) mA (grownCap_ge w (n + k) old e) (grownCap_le_maxLen w (n + k) old e h63) ?_ ?_ ?_) (.inr rfl)
        · have := grownCap_ge w (n + k) old e
          simp only [Array.size_append, List.size_toArray, size_zeroCells, hzs]
          omega
        · rw [List.length_append]; omega
        · simp only [Array.toList_append, List.append_assoc]
          rw [← List.append_assoc, Nat.mul_one]
          have : (xs ++ news).length = n + k := by rw [List.length_append]; omega
          rw [← this]
          exact List.take_left
      rcases hown.2 with ⟨hv, hn0⟩ | ⟨g, cap, cur, hv, _⟩
      · injection hv with e1 e2 e3
        subst e1 e3 hn0
        have hx0 : xs = [] := List.eq_nil_of_length_eq_zero (by have := hown.1; omega)
        subst hx0
        have hr := run_append_nil (P := P) w t o.type e i z T.ht hi hz A k c news (by rw [hsize]; exact hl1) hnews hk (by unfold maxLen at h63; omega) (by rw [hby]; have hb := hbytes; simp only [Nat.zero_add] at hb; omega)
        have hf := fin 0 [] rfl rfl (by simpa using hr)
        unfold Oper.wp execOp
        simp only [ho, resolve, invoke, builtin, Sem.run_bind, Sem.run_pure, Result.andThen_ok, List.map_toArray, List.map_cons, List.map_nil, hs, hx, hr]
        exact hK _ _ (by simpa using hf)
      · injection hv with e1 _ e3
        subst e1 e3
        have holds : ∀ j u, xs[j]? = some u → w.cell? ((⟨g, 0, none⟩ : Addr).add j) = some u := hown.cells (g := g) rfl
        have hr := run_append_grow (P := P) w t o.type e i z T.ht hi hz ⟨g, 0, none⟩ n c0 xs (by rw [hsize]; exact hown.1) holds A k c news (by rw [hsize]; exact hl1) hnews (by omega) (by unfold maxLen at h63; omega) (by rw [hby]; exact growslice_fits (by omega) hbytes)
        have hf := fin c0 xs (by have := hown.1; omega) rfl hr
        unfold Oper.wp execOp
        simp only [ho, resolve, invoke, builtin, Sem.run_bind, Sem.run_pure, Result.andThen_ok, List.map_toArray, List.map_cons, List.map_nil, hs, hx, hr]
        exact hK _ _ hf
end Go.Sl
