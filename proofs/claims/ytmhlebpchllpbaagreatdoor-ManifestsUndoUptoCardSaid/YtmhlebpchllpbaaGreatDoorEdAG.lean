/- Part of what is said, found by instances: plain lemmas over the small separation logic.
A row as a block, and back: plain lemmas.
append onto a row with the old row kept where it moves; rows of several cells as blocks: plain lemmas over the small separation logic.
append of elements that are read onto a row of one's own; a row is a slice: plain lemmas over the small separation logic.
Numbers as bytes, seven bits each (ints.Put, PutText): plain lemmas, and contracts over the small separation logic; the conditions are in each theorem.
A manifest's files (api.File) in plain lists; order.Check, edits' may: definitions, and contracts over the small separation logic; the conditions are in each theorem.
edits.Put: an edit as bytes: definitions, and contracts over the small separation logic; the conditions are in each theorem.
Numbers and texts read back out of bytes (ints.Get, GetText): definitions, plain lemmas, and contracts over the small separation logic; the conditions are in each theorem.
Texts read back out of bytes (ints.GetText): definitions, and contracts over the small separation logic; the conditions are in each theorem.
edits' reader of bytes: definitions, and contracts over the small separation logic; the conditions are in each theorem.
edits' several: a list read out of bytes: definitions, plain lemmas, and contracts over the small separation logic; the conditions are in each theorem.
Edits in plain lists: what edits.Put writes is what edits.Get reads: plain lemmas.
edits.Get: an edit read out of bytes: definitions, plain lemmas, and contracts over the small separation logic; the conditions are in each theorem. -/
import Derived.Test.YtmhlebpchllpbaaGreatDoorBaseG
import Derived.Test.YtmhlebpchllpbaaGreatDoorNamesG
import Derived.Test.YtmhlebpchllpbaaGreatDoorArgsG
import Derived.Deep.QuietTactic
import Derived.BigQuiet
import Derived.Deep.DeepAppendRoom
import Derived.Test.YtmhlebpchllpbaaGreatDoorPartsG
import Derived.WalkLawsBesides
import Derived.Deep.RegionHeld3
import Derived.Laws.ResultCell
import Derived.Laws.Rows
namespace Go.Sl
open Go
/-- S says T, and perhaps more. -/
class Keeps (S T : Asn) : Prop where
  keep : ∀ x, (S * tru).says x → (T * tru).says x
theorem sep_tru_tru (A : Asn) (x : Hp) (h : (A * tru * tru).says x) : (A * tru).says x := by
  rw [sep_assoc] at h
  obtain ⟨a, b, h1, h2, h3, _⟩ := h
  exact ⟨a, b, h1, h2, h3, trivial⟩
instance (priority := 3000) Keeps.refl (S : Asn) : Keeps S S := ⟨fun _ h => h⟩
instance (priority := 2000) Keeps.mul (S A B R : Asn) [p : Pull S A R] [k : Keeps R B] : Keeps S (A * B) := ⟨fun x h => by
  rw [p.eq, sep_assoc] at h
  obtain ⟨a, b, h1, h2, h3, h4⟩ := h
  rw [sep_assoc]
  exact ⟨a, b, h1, h2, h3, k.keep b h4⟩⟩
instance (priority := 2500) Keeps.empL (S B : Asn) [k : Keeps S B] : Keeps S (emp * B) := ⟨fun x h => by rw [emp_sep]; exact k.keep x h⟩
instance (priority := 1000) Keeps.last (S A R : Asn) [p : Pull S A R] : Keeps S A := ⟨fun x h => by
  rw [p.eq, sep_assoc] at h
  obtain ⟨a, b, h1, h2, h3, _⟩ := h
  exact ⟨a, b, h1, h2, h3, trivial⟩⟩
/-- Only that part is kept. -/
theorem Mod.keep {w w0 : World} {S T : Asn} (m : Mod w w0 S) [k : Keeps S T] : Mod w w0 T := ⟨m.os, m.tape, m.output, k.keep _ m.says⟩
end Go.Sl
namespace Go.Proofs.YtmhlebpchllpbaaGreatDoor
open Go.RowKit Go.Sl
/-- A row's block. -/
theorem row_open {w w0 : World} {e : TypeId} {A : Option Addr} {n c : Nat} {xs : List Value} {F : Asn} (m : Mod w w0 (rowA e 1 (.slice A n c) n xs * F)) (hn : 0 < n) : ∃ g cur, A = some ⟨g, 0, none⟩ ∧ n ≤ cur.size ∧ c ≤ maxLen ∧ xs.length = n ∧ cur.size = c ∧ cur.toList.take n = xs ∧ Mod w w0 (blk g (.cells cur e (0, 0)) * F) := by
  have h := m.says
  rw [sep_assoc] at h
  obtain ⟨a, b, h1, h2, ⟨hl, h3⟩, h4⟩ := h
  rcases h3 with ⟨_, h0, _⟩ | ⟨g, cap, cur, hv, k1, k2, k3, k4, rfl⟩
  · omega
  · injection hv with e1 e2 e3
    subst e1 e3
    rw [Nat.mul_one] at k3 k4 hl
    exact ⟨g, cur, rfl, by omega, k2, hl, k3, k4, m.os, m.tape, m.output, by rw [sep_assoc]; exact ⟨_, b, h1, h2, rfl, h4⟩⟩
theorem row_shut {w w0 : World} {e : TypeId} {g n c : Nat} {cur : Array Value} {xs : List Value} {F : Asn} (m : Mod w w0 (blk g (.cells cur e (0, 0)) * F)) (h1 : n ≤ c) (h2 : c ≤ maxLen) (h3 : cur.size = c) (h4 : xs.length = n) (h5 : cur.toList.take n = xs) : Mod w w0 (rowA e 1 (.slice (some ⟨g, 0, none⟩) n c) n xs * F) := by
  refine Mod.conv (S := blk g (.cells cur e (0, 0)) * F) (m := m) fun x hx => sep_imp (A := blk g (.cells cur e (0, 0))) (fun y hy => ?_) hx
  exact ⟨by omega, .inr ⟨g, c, cur, rfl, h1, h2, by omega, by rw [Nat.mul_one]; exact h5, hy⟩⟩
end Go.Proofs.YtmhlebpchllpbaaGreatDoor
namespace Go.Sl
open Go Go.RowKit
theorem row_open_n {w w0 : World} {e size : Nat} {A : Option Addr} {n c : Nat} {xs : List Value} {F : Asn} (m : Mod w w0 (rowA e size (.slice A n c) n xs * F)) (hn : 0 < n) : ∃ g cur, A = some ⟨g, 0, none⟩ ∧ n ≤ c ∧ c ≤ maxLen ∧ xs.length = n * size ∧ cur.size = c * size ∧ cur.toList.take (n * size) = xs ∧ Mod w w0 (blk g (.cells cur e (0, 0)) * F) := by
  have h := m.says
  rw [sep_assoc] at h
  obtain ⟨a, b, h1, h2, ⟨hl, h3⟩, h4⟩ := h
  rcases h3 with ⟨_, h0, _⟩ | ⟨g, cap, cur, hv, k1, k2, k3, k4, rfl⟩
  · omega
  · injection hv with e1 e2 e3
    subst e1 e3
    exact ⟨g, cur, rfl, k1, k2, hl, k3, k4, m.os, m.tape, m.output, by rw [sep_assoc]; exact ⟨_, b, h1, h2, rfl, h4⟩⟩
theorem row_shut_n {w w0 : World} {e size : Nat} {g n c : Nat} {cur : Array Value} {xs : List Value} {F : Asn} (m : Mod w w0 (blk g (.cells cur e (0, 0)) * F)) (h1 : n ≤ c) (h2 : c ≤ maxLen) (h3 : cur.size = c * size) (h4 : xs.length = n * size) (h5 : cur.toList.take (n * size) = xs) : Mod w w0 (rowA e size (.slice (some ⟨g, 0, none⟩) n c) n xs * F) := by
  refine Mod.conv (S := blk g (.cells cur e (0, 0)) * F) (m := m) fun x hx => sep_imp (A := blk g (.cells cur e (0, 0))) (fun y hy => ?_) hx
  exact ⟨h4, .inr ⟨g, c, cur, rfl, h1, h2, h3, h5, hy⟩⟩
/-- append of elements of one cell: in place, or the old row stays as it was. -/
theorem wpList_append_keep {P : Program} {w w0 : World} {F : Asn} {ops : Array Oper} {rest : List Oper} {o : Oper} {a : Act} {Q : Exit → Act → World → Prop} {s x : Operand} {t e bytes : Nat} [T : RowN P t e 1 bytes] (hgd : o.guard = none)
    (ho : o.op = .call { callee := .builtin .append, args := #[s, x], argTypes := #[t, t] }) {A0 : Option Addr} {n c0 : Nat} {xs : List Value} (m : Mod w w0 (rowA e 1 (.slice A0 n c0) n xs * F)) (hs : a.eval s = .slice A0 n c0)
    {A : Addr} {k c : Nat} {news : List Value} (hx : a.eval x = .slice (some A) k c) (r : Reads F (some A) k news) (hk : 0 < k) (h1 : ∀ u ∈ news, u.oneCell' = true) (h63 : n + k ≤ maxLen) (hbytes : (n + k) * bytes ≤ 140737488355328)
    (h : ∀ A' c' w' K, Mod w' w0 (rowA e 1 (.slice A' (n + k) c') (n + k) (xs ++ news) * (K * F)) → (A' = A0 ∨ K = rowA e 1 (.slice A0 n c0) n xs) → wpList P ops Q rest (a.put o.dst (.slice A' (n + k) c')) w') : wpList P ops Q (o :: rest) a w :=
  wpList_plain hgd fun _ hK => by
    obtain ⟨i, z, hi, hz, hsize, hby, hzs, h0⟩ := T.get
    have rS : Reads (rowA e 1 (.slice A0 n c0) n xs * F) (some A) k news := inferInstance
    have hlen := reads_len m rS
    obtain ⟨ad, ha, hsp, hc⟩ := reads_cell m rS hk
    injection ha with ha
    subst ha
    have hnews : ∀ j u, news[j]? = some u → w.cell? (A.add j) = some u := fun j u hu => by rw [add_off A j hsp]; exact hc j u hu
    have hl1 : news.length = k * 1 := by omega
    by_cases hroom : n + k ≤ c0
    · have hown := owns_of_row m
      have hA : ∃ g, A0 = some ⟨g, 0, none⟩ := by
        rcases hown.2 with ⟨h1, h2⟩ | ⟨g, cap, cur, h1, _⟩
        · injection h1 with _ _ e3; omega
        · injection h1 with e1 _ _; exact ⟨g, e1⟩
      obtain ⟨g, rfl⟩ := hA
      obtain ⟨w', hrun, h2, h3⟩ := run_append_own_spare (P := P) w 0 t o.type e i 1 T.ht hi hsize g n c0 xs hown A k c news hl1 hnews h1 hroom
      have m2 := m.rowStep h2 h3 (.inl rfl)
      unfold Oper.wp execOp
      simp only [ho, resolve, invoke, builtin, Sem.run_bind, Sem.run_pure, Result.andThen_ok, List.map_toArray, List.map_cons, List.map_nil, hs, hx, hrun]
      exact hK _ _ (h _ _ w' emp (by rw [emp_sep]; exact m2) (.inl rfl))
    · have hown := owns_of_row m
      have fin : ∀ (old : Nat) (olds : List Value), (olds.length = n) → xs = olds → (Builtin.append_ #[t, t] o.type #[.slice A0 n c0, .slice (some A) k c]).run P w = .ok (.slice (some ⟨w.heap.size, 0, none⟩) (n + k) (grownCap w (n + k) old e)) (w.drew.alloc (.cells (olds.toArray ++ news.toArray ++ Builtin.zeroCells z.cells (grownCap w (n + k) old e - (n + k))) e)) → wpList P ops Q rest (a.put o.dst (.slice (some ⟨w.heap.size, 0, none⟩) (n + k) (grownCap w (n + k) old e))) (w.drew.alloc (.cells (olds.toArray ++ news.toArray ++ Builtin.zeroCells z.cells (grownCap w (n + k) old e - (n + k))) e)) := by
        intro old olds ho hxs _
        subst hxs
        have mA : Mod (w.drew.alloc (.cells (xs.toArray ++ news.toArray ++ Builtin.zeroCells z.cells (grownCap w (n + k) old e - (n + k))) e)) w0 (blk w.heap.size (.cells (xs.toArray ++ news.toArray ++ Builtin.zeroCells z.cells (grownCap w (n + k) old e - (n + k))) e (0, 0)) * (rowA e 1 (.slice A0 n c0) n xs * F)) := by
          haveI : Mod w.drew w0 (rowA e 1 (.slice A0 n c0) n xs * F) := inferInstance
          exact Mod.alloc (w := w.drew) _ (n := w.heap.size) (hn := ⟨rfl⟩)
        refine h _ _ _ (rowA e 1 (.slice A0 n c0) n xs) (row_shut_n (size := 1) mA (grownCap_ge w (n + k) old e) (grownCap_le_maxLen w (n + k) old e h63) ?_ ?_ ?_) (.inr rfl)
        · have := grownCap_ge w (n + k) old e
          simp only [Array.size_append, List.size_toArray, size_zeroCells, hzs]
          omega
        · rw [List.length_append]; omega
        · simp only [Array.toList_append, List.append_assoc]
          rw [← List.append_assoc, Nat.mul_one]
          have : (xs ++ news).length = n + k := by rw [List.length_append]; omega
          rw [← this]
          exact List.take_left
      rcases hown.2 with ⟨hv, hn0⟩ | ⟨g, cap, cur, hv, _⟩
      · injection hv with e1 e2 e3
        subst e1 e3 hn0
        have hx0 : xs = [] := List.eq_nil_of_length_eq_zero (by have := hown.1; omega)
        subst hx0
        have hr := run_append_nil (P := P) w t o.type e i z T.ht hi hz A k c news (by rw [hsize]; exact hl1) hnews hk (by unfold maxLen at h63; omega) (by rw [hby]; have hb := hbytes; simp only [Nat.zero_add] at hb; omega)
        have hf := fin 0 [] rfl rfl (by simpa using hr)
        unfold Oper.wp execOp
        simp only [ho, resolve, invoke, builtin, Sem.run_bind, Sem.run_pure, Result.andThen_ok, List.map_toArray, List.map_cons, List.map_nil, hs, hx, hr]
        exact hK _ _ (by simpa using hf)
      · injection hv with e1 _ e3
        subst e1 e3
        have holds : ∀ j u, xs[j]? = some u → w.cell? ((⟨g, 0, none⟩ : Addr).add j) = some u := hown.cells (g := g) rfl
        have hr := run_append_grow (P := P) w t o.type e i z T.ht hi hz ⟨g, 0, none⟩ n c0 xs (by rw [hsize]; exact hown.1) holds A k c news (by rw [hsize]; exact hl1) hnews (by omega) (by unfold maxLen at h63; omega) (by rw [hby]; exact growslice_fits (by omega) hbytes)
        have hf := fin c0 xs (by have := hown.1; omega) rfl hr
        unfold Oper.wp execOp
        simp only [ho, resolve, invoke, builtin, Sem.run_bind, Sem.run_pure, Result.andThen_ok, List.map_toArray, List.map_cons, List.map_nil, hs, hx, hr]
        exact hK _ _ hf
end Go.Sl
namespace Go.Sl
open Go Go.RowKit
theorem row_slice {w w0 : World} {e : TypeId} {size n : Nat} {v : Value} {xs : List Value} {F : Asn} (m : Mod w w0 (rowA e size v n xs * F)) : ∃ A c, v = .slice A n c ∧ n ≤ c := by
  rcases (owns_of_row m).2 with ⟨h1, h2⟩ | ⟨g, cap, cur, h1, _, _, h2, _⟩
  · exact ⟨none, 0, by rw [h1, h2], by omega⟩
  · exact ⟨_, _, h1, h2⟩
/-- append of elements that are read onto a row of one's own, however few, at the operation. -/
theorem wpList_append_k {P : Program} {w w0 : World} {F : Asn} {ops : Array Oper} {rest : List Oper} {o : Oper} {a : Act} {Q : Exit → Act → World → Prop} {s x : Operand} {t e size bytes : Nat} [T : RowN P t e size bytes] (hgd : o.guard = none)
    (ho : o.op = .call { callee := .builtin .append, args := #[s, x], argTypes := #[t, t] }) {v : Value} {n : Nat} {xs : List Value} (m : Mod w w0 (rowA e size v n xs * F)) (hs : a.eval s = v)
    {A : Option Addr} {k c : Nat} {news : List Value} (hx : a.eval x = .slice A k c) (r : Reads F A (k * size) news) (h1 : ∀ u ∈ news, u.oneCell' = true) (h63 : n + k ≤ maxLen) (hbytes : (n + k) * bytes ≤ 140737488355328)
    (h : ∀ A' c' w', Mod w' w0 (rowA e size (.slice A' (n + k) c') (n + k) (xs ++ news) * F) → wpList P ops Q rest (a.put o.dst (.slice A' (n + k) c')) w') : wpList P ops Q (o :: rest) a w := by
  rcases Nat.eq_zero_or_pos k with hk | hk
  · subst hk
    have rS : Reads (rowA e size v n xs * F) A (0 * size) news := inferInstance
    have hlen := reads_len m rS
    have hnews : news = [] := List.eq_nil_of_length_eq_zero (by rw [hlen, Nat.zero_mul])
    subst hnews
    obtain ⟨i, z, hi, hz, hsize, hby, hzs, h0⟩ := T.get
    have hown := owns_of_row m
    have hv2 : ∃ A' c', v = .slice A' n c' := by
      rcases hown.2 with ⟨h1, h2⟩ | ⟨g, cap, cur, h1, _⟩
      · exact ⟨none, 0, by rw [h1, h2]⟩
      · exact ⟨_, _, h1⟩
    obtain ⟨A', c', rfl⟩ := hv2
    have hrun : (Builtin.append_ #[t, t] o.type #[.slice A' n c', .slice A 0 c]).run P w = .ok (.slice A' n c') w := by
      rcases hown.2 with ⟨h1, rfl⟩ | ⟨g, cap, cur, h1, _, hh, hnc, _⟩
      · injection h1 with h1 h2 h3
        subst h1 h3
        cases A <;> simp [Builtin.append_, run_underlying T.ht, sizeOf, typeInfo, hi, Builtin.lenOf, Builtin.firstCells, loadCells, loadCellsFrom]
      · injection h1 with h1 h2 h3
        subst h1 h3
        cases A <;> simp [Builtin.append_, run_underlying T.ht, sizeOf, typeInfo, hi, Builtin.lenOf, Builtin.firstCells, loadCells, loadCellsFrom, hnc, storeCells]
    refine wpList_plain hgd fun _ hK => ?_
    unfold Oper.wp execOp
    simp only [ho, resolve, invoke, builtin, Sem.run_bind, Sem.run_pure, Result.andThen_ok, List.map_toArray, List.map_cons, List.map_nil, hs, hx, hrun]
    exact hK _ _ (h A' c' w (by simpa using m))
  · have rS : Reads (rowA e size v n xs * F) A (k * size) news := inferInstance
    obtain ⟨i, z, hi, hz, hsize, hby, hzs, h0⟩ := T.get
    obtain ⟨ad, rfl, _, _⟩ := reads_cell m rS (Nat.mul_pos hk h0)
    exact wpList_append_n hgd ho m hs hx r hk h1 h63 hbytes h
end Go.Sl
namespace Go.Sl
/-- A number, seven bits in each byte. -/
def vint (n : Nat) : List UInt8 := if n < 128 then [UInt8.ofNat n] else UInt8.ofNat (n % 128 + 128) :: vint (n / 128)
termination_by n
decreasing_by omega
theorem vint_small {n : Nat} (h : n < 128) : vint n = [UInt8.ofNat n] := by rw [vint, if_pos h]
theorem vint_big {n : Nat} (h : ¬ n < 128) : vint n = UInt8.ofNat (n % 128 + 128) :: vint (n / 128) := by rw [vint, if_neg h]
theorem vint_pos (n : Nat) : 1 ≤ (vint n).length := by
  rw [vint]; split <;> simp
theorem vint_len : ∀ (k n : Nat), n < 128 ^ (k + 1) → (vint n).length ≤ k + 1
  | 0, n, h => by rw [vint_small (by omega)]; simp
  | k + 1, n, h => by
    by_cases hn : n < 128
    · rw [vint_small hn]; simp
    · rw [vint_big hn]
      have := vint_len k (n / 128) (by rw [Nat.pow_succ] at h; omega)
      simp only [List.length_cons]; omega
theorem vint_ten {n : Nat} (h : n < 18446744073709551616) : (vint n).length ≤ 10 := vint_len 9 n (by omega)
end Go.Sl
namespace Go.Proofs.YtmhlebpchllpbaaGreatDoor
open Go.RowKit Go.Sl
attribute [local go_sem] cell_of cellAt_of frozen_of zero_names conv_sb
theorem row_some {w w0 : World} {e size : Nat} {A : Option Addr} {n c : Nat} {xs : List Value} {F : Asn} (m : Mod w w0 (rowA e size (.slice A n c) n xs * F)) (hn : 0 < n) : ∃ g, A = some ⟨g, 0, none⟩ := by
  obtain ⟨g, cur, h, _⟩ := row_open_n m hn
  exact ⟨g, h⟩
theorem or_128 (v : Nat) : bits .or .u8 ((v : Int) % 256) 128 = ((v % 128 + 128 : Nat) : Int) := by
  have h : ∀ x : Fin 256, bits .or .u8 (x.val : Int) 128 = ((x.val % 128 + 128 : Nat) : Int) := by decide +kernel
  have h2 := h ⟨v % 256, by omega⟩
  simp only at h2
  have e : ((v : Int) % 256) = ((v % 256 : Nat) : Int) := by omega
  rw [e, h2]
  omega
theorem u8s_one (b : UInt8) : [Value.int .u8 (b.toNat : Int)] = u8s [b] := rfl
set_option maxHeartbeats 2000000 in
theorem iPut1_spec (g : Nat) (A : Option Addr) (k c : Nat) (xs : List UInt8) (z : Int) (x : UInt8) (hz : z = (x.toNat : Int)) (w w0 : World) (F : Asn) (hk : k ≤ 1000000000) (m : Mod w w0 (Go.Sl.blk g (.cells #[.slice A k c] 63 (0, 0)) * (rowA 5 1 (.slice A k c) k (u8s xs) * F))) :
    Calls Tryz.prog 113 #[.int .u8 z, ptr g] w fun e w' => e = .returned (.tuple #[]) ∧ ∃ A' c', Mod w' w0 (Go.Sl.blk g (.cells #[.slice A' (k + 1) c'] 63 (0, 0)) * (rowA 5 1 (.slice A' (k + 1) c') (k + 1) (u8s (xs ++ [x])) * F)) := by
  subst hz
  go_enter Tryz.func113, Tryz.ntmps113
  go_wp2_with (at_builtin; refine wpList_append (v := .slice A k c) (A := some ⟨w.heap.size, 0, none⟩) (k := 1) (c := 1) (news := u8s [x]) (r := reads_blk rfl rfl) rfl rfl inferInstance rfl rfl (one_u8s _) (by unfold maxLen; omega) (by omega) ?_; intro A2 c2 w2 m2)
  rw [← u8s_append] at m2
  go_end0
  have m3 : Mod (w2.setCell ⟨g, 0, none⟩ (.slice A2 (k + 1) c2)) w0 _ := inferInstance
  simp only [List.setIfInBounds_toArray, List.set_cons_zero] at m3
  exact ⟨rfl, A2, c2, Mod.keep m3⟩
set_option maxHeartbeats 2000000 in
theorem idigits_spec (g : Nat) (n : Nat) (hn : n < 18446744073709551616) (A : Option Addr) (k c : Nat) (xs : List UInt8) (w w0 : World) (F : Asn) (hk : k ≤ 900000000) (m : Mod w w0 (Go.Sl.blk g (.cells #[.slice A k c] 63 (0, 0)) * (rowA 5 1 (.slice A k c) k (u8s xs) * F))) :
    Calls Tryz.prog 112 #[.int .u64 (n : Int), .func (.func 113) #[] #[ptr g]] w fun e w' => e = .returned (.tuple #[]) ∧ ∃ A' c', Mod w' w0 (Go.Sl.blk g (.cells #[.slice A' (k + (vint n).length) c'] 63 (0, 0)) * (rowA 5 1 (.slice A' (k + (vint n).length) c') (k + (vint n).length) (u8s (xs ++ vint n)) * F)) := by
  obtain ⟨V, hV⟩ : ∃ V, vint n = V := ⟨_, rfl⟩
  have hVl : V.length ≤ 10 := by rw [← hV]; exact vint_ten hn
  rw [hV]
  have HV := Lib.hid hV
  clear hV
  go_enter Tryz.func112, Tryz.ntmps112
  go_wp2_with fail
  go_loopg [0] n (fun gk v wr => ∃ (q kk cc : Nat) (Ar : Option Addr) (ys : List UInt8), gk = q ∧ v = .int .u64 (q : Int) ∧ q ≤ n ∧ k ≤ kk ∧ Hid (V = ys ++ vint q ∧ kk = k + ys.length) ∧ kk ≤ k + 10 ∧ Mod wr w0 (Go.Sl.blk g (.cells #[.slice Ar kk cc] 63 (0, 0)) * (rowA 5 1 (.slice Ar kk cc) kk (u8s (xs ++ ys)) * F)))
  case atStart => exact ⟨n, k, c, A, [], rfl, rfl, Nat.le_refl _, Nat.le_refl _, ⟨HV.out.symm, rfl⟩, by omega, by rw [List.append_nil]; exact m⟩
  case round =>
    obtain ⟨q, kk, cc, Ar, ys, hgk, rfl, hq, hkk, Hys, hkk2, m2⟩ := hrel
    by_cases h : q < 128
    · have hqi : ¬ (128 : Int) ≤ (q : Int) := by omega
      have hle : V.length = ys.length + 1 := by rw [Hys.out.1, vint_small h]; simp
      have HE : Hid (V = ys ++ [UInt8.ofNat q] ∧ kk + 1 = k + V.length) := ⟨by rw [Hys.out.1, vint_small h], by have := Hys.out.2; omega⟩
      have e1 : (q : Int) = ((UInt8.ofNat q).toNat : Int) := by rw [UInt8.toNat_ofNat']; omega
      have E1 := Lib.hid e1
      clear e1 hle
      go_wp2_with (go_at_call 113; refine (iPut1_spec g Ar kk cc (xs ++ ys) _ (UInt8.ofNat q) E1.out _ w0 F (by omega) m2).mono ?_; rintro e w3 ⟨rfl, A3, c3, m3⟩)
      go_end0
      exact ⟨rfl, A3, c3, by rw [← HE.out.2, HE.out.1, ← List.append_assoc]; exact m3⟩
    · have hqi : (128 : Int) ≤ (q : Int) := by omega
      have hpos := vint_pos (q / 128)
      have hlen := Hys.out
      rw [vint_big h] at hlen
      have hl := congrArg List.length hlen.1
      simp only [List.length_append, List.length_cons] at hl
      have HE : Hid (V = (ys ++ [UInt8.ofNat (q % 128 + 128)]) ++ vint (q / 128) ∧ kk + 1 = k + (ys ++ [UInt8.ofNat (q % 128 + 128)]).length) := ⟨by rw [hlen.1, List.append_assoc]; rfl, by rw [List.length_append, List.length_singleton]; have := hlen.2; omega⟩
      have hkk3 : kk + 1 ≤ k + 10 := by have := hlen.2; omega
      have e1 : bits .or .u8 ((q : Int) % 256) 128 = ((UInt8.ofNat (q % 128 + 128)).toNat : Int) := by rw [or_128, UInt8.toNat_ofNat']; omega
      have E1 := Lib.hid e1
      clear e1 hl hlen hpos
      go_wp2_with (go_at_call 113; refine (iPut1_spec g Ar kk cc (xs ++ ys) _ (UInt8.ofNat (q % 128 + 128)) E1.out _ w0 F (by omega) m2).mono ?_; rintro e w3 ⟨rfl, A3, c3, m3⟩)
      go_roundg (q / 128)
      case measure => omega
      case rel => exact ⟨q / 128, kk + 1, c3, A3, ys ++ [UInt8.ofNat (q % 128 + 128)], rfl, by go_num, by omega, by omega, HE, hkk3, by rw [← List.append_assoc]; exact m3⟩
set_option maxHeartbeats 2000000 in
theorem iPut_spec (B : Option Addr) (n c : Nat) (xs : List UInt8) (v : Nat) (hv : v < 18446744073709551616) (w w0 : World) (S : Asn) (m : Mod w w0 S) (r : Reads S B n (u8s xs)) (hn : n ≤ 1000000000) :
    Calls Tryz.prog 71 #[.slice B n c, .int .u64 (v : Int)] w fun e w' => ∃ A' c', e = .returned (.slice A' (n + (vint v).length) c') ∧ Mod w' w0 (rowA 5 1 (.slice A' (n + (vint v).length) c') (n + (vint v).length) (u8s (xs ++ vint v)) * S) := by
  have hl := vint_ten hv
  have hp := vint_pos v
  obtain ⟨V, hV⟩ : ∃ V, vint v = V := ⟨_, rfl⟩
  have HD := Lib.hid (fun (g : Nat) (w : World) (F : Asn) m => idigits_spec g v hv none 0 0 [] w w0 F (by omega) m)
  rw [hV] at HD hl hp ⊢
  obtain ⟨k, hk⟩ : ∃ k, V.length = k := ⟨_, rfl⟩
  rw [hk] at HD hl hp ⊢
  clear hV hk
  go_enter Tryz.func71, Tryz.ntmps71
  go_wp2_with (go_at_call 112; refine (HD.out w.heap.size _ S (Mod.to (m := row_none (e := 5) (inferInstance : Mod (w.alloc (.cells #[.slice none 0 0] 63)) w0 _)) (by show _ = Go.Sl.blk w.heap.size (.cells #[.slice none 0 0] 63 (0, 0)) * (rowA 5 1 (.slice none 0 0) 0 [] * S); ac_rfl))).mono ?_; rintro e w1 ⟨rfl, A1, c1, m1⟩; simp only [Nat.zero_add, List.nil_append] at m1; refine Hid.out ?_)
  obtain ⟨g2, hA⟩ := row_some (Mod.to (m := m1) (sep_left_comm _ _ _)) (by omega)
  subst hA
  refine Lib.hid ?_
  go_wp2_with (go_at_call 114; refine (join_two B n c xs _ V _ w0 _ inferInstance inferInstance g2 k c1 inferInstance inferInstance (by omega)).mono ?_; rintro e w2 ⟨A2, c2, rfl, m2⟩)
  go_ret
  exact ⟨A2, c2, rfl, Mod.keep m2⟩
set_option maxHeartbeats 2000000 in
theorem iPutText_spec (B : Option Addr) (n c : Nat) (xs : List UInt8) (s : ByteArray) (hs : s.size ≤ 1000000000) (w w0 : World) (S : Asn) (m : Mod w w0 S) (r : Reads S B n (u8s xs)) (hn : n ≤ 1000000000) :
    Calls Tryz.prog 72 #[.slice B n c, .string s] w fun e w' => ∃ A' c', e = .returned (.slice A' (n + (vint s.size).length + s.size) c') ∧ Mod w' w0 (rowA 5 1 (.slice A' (n + (vint s.size).length + s.size) c') (n + (vint s.size).length + s.size) (u8s (xs ++ vint s.size ++ s.data.toList)) * S) := by
  have hl := vint_ten (n := s.size) (by omega)
  have HP := Lib.hid (fun (w : World) m => iPut_spec B n c xs s.size (by omega) w w0 S m r hn)
  obtain ⟨V, hV⟩ : ∃ V, vint s.size = V := ⟨_, rfl⟩
  rw [hV] at HP hl ⊢
  obtain ⟨k, hk⟩ : ∃ k, V.length = k := ⟨_, rfl⟩
  rw [hk] at HP hl ⊢
  clear hV hk
  go_enter Tryz.func72, Tryz.ntmps72
  go_wp2_with first
    | (go_at_call 71; refine (HP.out _ m).mono ?_; rintro e w1 ⟨A1, c1, rfl, m1⟩)
    | (go_at_call 114; refine (join_two A1 (n + k) c1 (xs ++ V) _ s.data.toList _ w0 _ inferInstance inferInstance w1.heap.size s.size _ inferInstance inferInstance (by omega)).mono ?_; rintro e w2 ⟨A2, c2, rfl, m2⟩)
  go_ret
  exact ⟨A2, c2, rfl, Mod.keep m2⟩
end Go.Proofs.YtmhlebpchllpbaaGreatDoor
namespace Go.Sl
open Go
/-- A file of a manifest. -/
structure FileV where
  num : Nat
  level : Int
  least : ByteArray
  most : ByteArray
def FileV.cells (f : FileV) : List Value := [.int .u32 (f.num : Int), .int .i64 f.level, .string f.least, .string f.most]
def keyOk (s : ByteArray) : Bool := !s.toList.isEmpty && decide (s.size ≤ 32)
/-- The part of may that asks of the level. -/
def lvOk (l : Int) : Bool := decide (0 ≤ l) && decide (l < 4)
/-- The one text is not behind the other one. -/
def leS (a b : ByteArray) : Bool := Op.bytesLess a.toList b.toList || a.toList == b.toList
/-- May a file be? -/
def mayF (f : FileV) : Bool := ((lvOk f.level && keyOk f.least) && keyOk f.most) && leS f.least f.most
end Go.Sl
namespace Go.Proofs.YtmhlebpchllpbaaGreatDoor
open Go.RowKit Go.Sl
attribute [local go_sem] cell_of cellAt_of frozen_of zero_names
set_option maxHeartbeats 1000000 in
theorem ordCheck_spec (s : ByteArray) (w w0 : World) (S : Asn) (m : Mod w w0 S) : Calls Tryz.prog 144 #[.string s] w fun e w' => e = .returned (.bool (keyOk s)) ∧ Mod w' w0 S := by
  have e32 : decide ((s.size : Int) ≤ 32) = decide (s.size ≤ 32) := by congr 1; exact propext ⟨fun h => by omega, fun h => by omega⟩
  have He := Lib.hid e32
  have Hk : Hid (keyOk s = (!s.toList.isEmpty && decide (s.size ≤ 32))) := rfl
  clear e32
  cases h1 : s.toList.isEmpty
  · rw [h1] at Hk
    have h1' : ¬ s.toList = [] := by intro h; rw [h] at h1; cases h1
    go_enter Tryz.func144, Tryz.ntmps144
    go_wp2_with fail
    go_ret
    exact ⟨by rw [Hk.out, ← He.out]; simp, m⟩
  · rw [h1] at Hk
    have h1' : s.toList = [] := by simpa using h1
    go_enter Tryz.func144, Tryz.ntmps144
    go_wp2_with fail
    go_ret
    exact ⟨by rw [Hk.out]; rfl, m⟩
set_option maxHeartbeats 4000000 in
theorem emay_spec (f : FileV) (w w0 : World) (S : Asn) (m : Mod w w0 S) : Calls Tryz.prog 111 #[.agg #[.int .u32 (f.num : Int), .int .i64 f.level, .string f.least, .string f.most]] w fun e w' => e = .returned (.bool (mayF f)) ∧ Mod w' w0 S := by
  obtain ⟨num, lv, a, b⟩ := f
  have Hm : Hid (mayF ⟨num, lv, a, b⟩ = (((lvOk lv && keyOk a) && keyOk b) && leS a b)) := rfl
  have mA : Mod (w.alloc (.cells #[.int .u32 (num : Int), .int .i64 lv, .string a, .string b] 44)) w0 _ := Mod.alloc (m := m) _
  show Calls Tryz.prog _ #[.agg #[.int .u32 (num : Int), .int .i64 lv, .string a, .string b]] _ _
  cases hl : lvOk lv with
  | false =>
    rw [hl] at Hm
    have hl2 : lv < 0 ∨ 4 ≤ lv := by unfold lvOk at hl; simp at hl; omega
    clear hl
    rcases hl2 with h | h
    · have h' : ¬ (0 : Int) ≤ lv := by omega
      go_enter Tryz.func111, Tryz.ntmps111
      go_wp2_with fail
      go_ret
      exact ⟨by rw [Hm.out]; rfl, Mod.keep mA⟩
    · have h' : ¬ lv < 4 := by omega
      have h'' : (0 : Int) ≤ lv := by omega
      go_enter Tryz.func111, Tryz.ntmps111
      go_wp2_with fail
      go_ret
      exact ⟨by rw [Hm.out]; rfl, Mod.keep mA⟩
  | true =>
    rw [hl] at Hm
    have hl2 : 0 ≤ lv ∧ lv < 4 := by unfold lvOk at hl; simp at hl; omega
    obtain ⟨hl3, hl4⟩ := hl2
    clear hl
    cases hka : keyOk a with
    | false =>
      have HA := Lib.hid (fun (u : World) (S : Asn) (mu : Mod u w0 S) => ordCheck_spec a u w0 S mu)
      rw [hka] at HA Hm
      clear hka
      go_enter Tryz.func111, Tryz.ntmps111
      go_wp2_with (go_at_call 144; refine (HA.out _ _ mA).mono ?_; rintro e w1 ⟨rfl, m1⟩)
      go_ret
      exact ⟨by rw [Hm.out]; rfl, Mod.keep m1⟩
    | true =>
      have HA := Lib.hid (fun (u : World) (S : Asn) (mu : Mod u w0 S) => ordCheck_spec a u w0 S mu)
      have HB := Lib.hid (fun (u : World) (S : Asn) (mu : Mod u w0 S) => ordCheck_spec b u w0 S mu)
      rw [hka] at HA Hm
      clear hka
      cases hkb : keyOk b with
      | false =>
        rw [hkb] at HB Hm
        clear hkb
        go_enter Tryz.func111, Tryz.ntmps111
        go_wp2_with first
          | (go_at_call 144; refine (HB.out _ _ m1).mono ?_; rintro e w2 ⟨rfl, m2⟩)
          | (go_at_call 144; refine (HA.out _ _ mA).mono ?_; rintro e w1 ⟨rfl, m1⟩)
        go_ret
        exact ⟨by rw [Hm.out]; rfl, Mod.keep m2⟩
      | true =>
        rw [hkb] at HB Hm
        clear hkb
        go_enter Tryz.func111, Tryz.ntmps111
        go_wp2_with first
          | (go_at_call 144; refine (HB.out _ _ m1).mono ?_; rintro e w2 ⟨rfl, m2⟩)
          | (go_at_call 144; refine (HA.out _ _ mA).mono ?_; rintro e w1 ⟨rfl, m1⟩)
        go_ret
        exact ⟨by rw [Hm.out]; rfl, Mod.keep m2⟩
set_option maxHeartbeats 1000000 in
theorem efine1_spec (f : FileV) (w w0 : World) (S : Asn) (m : Mod w w0 S) : Calls Tryz.prog 110 #[.agg #[.int .u32 (f.num : Int), .int .i64 f.level, .string f.least, .string f.most]] w fun e w' => e = .returned (.bool (!mayF f)) ∧ Mod w' w0 S := by
  have H := Lib.hid (fun (u : World) (S : Asn) (mu : Mod u w0 S) => emay_spec f u w0 S mu)
  generalize mayF f = b at *
  go_enter Tryz.func110, Tryz.ntmps110
  go_wp2_with (go_at_call 111; refine (H.out _ _ (Mod.alloc (m := m) _)).mono ?_; rintro e w1 ⟨rfl, m1⟩)
  go_ret
  exact ⟨rfl, Mod.keep m1⟩
/-- What a slice of files reads as. -/
structure ReadsFiles (S : Asn) (A : Option Addr) (n : Nat) (l : List FileV) : Prop where
  len : l.length = n
  cells : Reads S A (n * 4) (l.flatMap FileV.cells)
theorem ReadsFiles.lift {S' S : Asn} {A : Option Addr} {n : Nat} {l : List FileV} (s : Sub S' S) (r : ReadsFiles S A n l) : ReadsFiles S' A n l := ⟨r.len, reads_lift s r.cells⟩
theorem file_cell : ∀ (l : List FileV) (k j : Nat) (v : Value) (h : k < l.length), l[k].cells[j]? = some v → (l.flatMap FileV.cells)[k * 4 + j]? = some v
  | [], k, _, _, h, _ => by simp at h
  | x :: l, 0, j, v, _, hv => by
    simp only [List.getElem_cons_zero] at hv
    rw [List.flatMap_cons, Nat.zero_mul, Nat.zero_add, List.getElem?_append_left (List.getElem?_eq_some_iff.1 hv).1]
    exact hv
  | x :: l, k + 1, j, v, h, hv => by
    have hl : x.cells.length = 4 := rfl
    rw [List.flatMap_cons, List.getElem?_append_right (by rw [hl]; omega), hl, show (k + 1) * 4 + j - 4 = k * 4 + j by omega]
    exact file_cell l k j v (by simpa using h) (by simpa using hv)
theorem file_at {S : Asn} {b o n : Nat} {l : List FileV} (r : ReadsFiles S (some ⟨b, o, none⟩) n l) {k : Nat} (hk : k < l.length) : CellAt S b (o + k * 4) (.int .u32 (l[k].num : Int)) ∧ CellAt S b (o + k * 4 + 1) (.int .i64 l[k].level) ∧ CellAt S b (o + k * 4 + 2) (.string l[k].least) ∧ CellAt S b (o + k * 4 + 3) (.string l[k].most) := by
  have hp : 0 < n * 4 := by have := r.len; omega
  have f : ∀ j v, l[k].cells[j]? = some v → CellAt S b (o + k * 4 + j) v := fun j v hv => by
    rw [Nat.add_assoc]
    exact reads_at_cell r.cells hp _ (file_cell l k j v hk hv)
  exact ⟨f 0 _ rfl, f 1 _ rfl, f 2 _ rfl, f 3 _ rfl⟩
theorem files_some {w w0 : World} {S : Asn} {A : Option Addr} {n : Nat} {l : List FileV} (m : Mod w w0 S) (r : ReadsFiles S A n l) {k : Nat} (hk : k < n) : ∃ b o, A = some ⟨b, o, none⟩ := by
  obtain ⟨ad, ha, hs, _⟩ := reads_cell m r.cells (by omega)
  obtain ⟨b, o, sp⟩ := ad
  simp only at hs
  subst hs
  exact ⟨b, o, ha⟩
/-- Where the first one is of which p says true: IndexFunc's answer. -/
def indexOf (p : FileV → Bool) (l : List FileV) : Int := match l.findIdx? p with | some i => (i : Int) | none => -1
theorem indexOf_at {p : FileV → Bool} {l : List FileV} {i : Nat} (hi : i < l.length) (h : ∀ j (_ : j < l.length), j < i → p l[j] = false) (hp : p l[i] = true) : indexOf p l = (i : Int) := by
  unfold indexOf
  have : l.findIdx? p = some i := by
    rw [List.findIdx?_eq_some_iff_getElem]
    exact ⟨hi, hp, fun j hj => by simpa using h j (by omega) hj⟩
  rw [this]
theorem indexOf_none {p : FileV → Bool} {l : List FileV} (h : ∀ j (_ : j < l.length), p l[j] = false) : indexOf p l = -1 := by
  unfold indexOf
  have : l.findIdx? p = none := by
    rw [List.findIdx?_eq_none_iff]
    intro x hx
    obtain ⟨j, hj, rfl⟩ := List.mem_iff_getElem.1 hx
    exact h j hj
  rw [this]
set_option maxHeartbeats 4000000 in
theorem indexFine_spec (A : Option Addr) (n c : Nat) (l : List FileV) (w w0 : World) (S : Asn) (m : Mod w w0 S) (r : ReadsFiles S A n l) (hn : n ≤ 1000000000) :
    Calls Tryz.prog 76 #[.slice A n c, .func (.func 110) #[] #[]] w fun e w' => e = .returned (.int .i64 (indexOf (fun f => !mayF f) l)) ∧ Mod w' w0 S := by
  have R := Lib.hid r
  obtain ⟨z, hz⟩ : ∃ z, indexOf (fun f => !mayF f) l = z := ⟨_, rfl⟩
  rw [hz]
  have Hz := Lib.hid hz
  clear r hz
  go_enter Tryz.func76, Tryz.ntmps76
  go_wp2_with fail
  go_loopg [8] n (fun gk iv wr => ∃ i : Nat, i ≤ n ∧ gk = n - i ∧ iv = .int .i64 (i : Int) ∧ Hid (∀ j (_ : j < l.length), j < i → (!mayF l[j]) = false) ∧ Mod wr w0 S)
  case atStart => exact ⟨0, Nat.zero_le _, rfl, rfl, (fun j _ hj => by omega), m⟩
  case round =>
    obtain ⟨i, hi, hgk, rfl, Hall, m1⟩ := hrel
    by_cases hlt : i < n
    · have hii : (i : Int) < (n : Int) := by omega
      have hil : i < l.length := by rw [R.out.len]; exact hlt
      obtain ⟨b, o, rfl⟩ := files_some m1 R.out hlt
      obtain ⟨c0, c1, c2, c3⟩ := file_at R.out hil
      have HF := Lib.hid (fun (u : World) (mu : Mod u w0 S) => efine1_spec l[i] u w0 S mu)
      cases hp : mayF l[i] with
      | true =>
        rw [hp] at HF
        have Hnext : Hid (∀ j (_ : j < l.length), j < i + 1 → (!mayF l[j]) = false) := fun j hj hji => by
          by_cases e : j = i
          · subst e; rw [hp]; rfl
          · exact Hall.out j hj (by omega)
        clear hp
        generalize l[i] = f at *
        go_wp2_with (go_at_call 110; refine (HF.out _ m1).mono ?_; rintro e w1 ⟨rfl, m2⟩)
        go_roundg (n - (i + 1))
        case measure => omega
        case rel => exact ⟨i + 1, hlt, rfl, by go_num, Hnext, m2⟩
      | false =>
        rw [hp] at HF
        have Hend : Hid (z = (i : Int)) := by show _ = _; rw [← Hz.out]; exact indexOf_at hil Hall.out (by rw [hp]; rfl)
        clear hp
        generalize l[i] = f at *
        go_wp2_with (go_at_call 110; refine (HF.out _ m1).mono ?_; rintro e w1 ⟨rfl, m2⟩)
        (try rw [Exit.noGoto_ret])
        go_ret
        exact ⟨by rw [Hend.out]; rfl, m2⟩
    · have hii : ¬ (i : Int) < (n : Int) := by omega
      have Hend : Hid (z = -1) := by
        show _ = _
        rw [← Hz.out]
        exact indexOf_none fun j hj => Hall.out j hj (by have := R.out.len; omega)
      go_wp2_with fail
      go_ret
      exact ⟨by rw [Hend.out]; rfl, m1⟩
theorem indexOf_ge (p : FileV → Bool) (l : List FileV) : decide (0 ≤ indexOf p l) = l.any p := by
  unfold indexOf
  cases h : l.findIdx? p with
  | none =>
    rw [List.findIdx?_eq_none_iff] at h
    have : l.any p = false := by rw [List.any_eq_false]; intro x hx; rw [h x hx]; decide
    rw [this]; rfl
  | some i =>
    obtain ⟨hi, hp, _⟩ := List.findIdx?_eq_some_iff_getElem.1 h
    have : l.any p = true := List.any_eq_true.2 ⟨l[i], List.getElem_mem hi, hp⟩
    rw [this]
    show decide (0 ≤ (i : Int)) = true
    exact decide_eq_true (by omega)
/-- May all files be? -/
def fineF (l : List FileV) : Bool := l.all mayF
set_option maxHeartbeats 2000000 in
theorem efine_spec (A : Option Addr) (n c : Nat) (l : List FileV) (w w0 : World) (S : Asn) (m : Mod w w0 S) (r : ReadsFiles S A n l) (hn : n ≤ 1000000000) :
    Calls Tryz.prog 68 #[.slice A n c] w fun e w' => e = .returned (.bool (fineF l)) ∧ Mod w' w0 S := by
  have H := Lib.hid (fun (u : World) (mu : Mod u w0 S) => indexFine_spec A n c l u w0 S mu r hn)
  have hb : (!decide (0 ≤ indexOf (fun f => !mayF f) l)) = fineF l := by
    rw [indexOf_ge]
    unfold fineF
    rw [List.all_eq_not_any_not]
  have Hb := Lib.hid hb
  generalize indexOf (fun f => !mayF f) l = z at *
  clear hb
  by_cases hz : 0 ≤ z
  · rw [decide_eq_true hz] at Hb
    have HC : Hid (∀ u, Mod u w0 S → Calls Tryz.prog 109 #[.slice A n c, .func (.func 110) #[] #[]] u fun e w' => e = .returned (.bool true) ∧ Mod w' w0 S) := fun u mu => by
      go_enter Tryz.func109, Tryz.ntmps109
      go_wp2_with (go_at_call 76; refine (H.out _ mu).mono ?_; rintro e w1 ⟨rfl, m1⟩)
      go_ret
      exact ⟨rfl, m1⟩
    go_enter Tryz.func68, Tryz.ntmps68
    go_wp2_with (go_at_call 109; refine (HC.out _ m).mono ?_; rintro e w1 ⟨rfl, m1⟩)
    go_ret
    exact ⟨by rw [← Hb.out]; rfl, m1⟩
  · rw [decide_eq_false hz] at Hb
    have hz2 : z < 0 := by omega
    have HC : Hid (∀ u, Mod u w0 S → Calls Tryz.prog 109 #[.slice A n c, .func (.func 110) #[] #[]] u fun e w' => e = .returned (.bool false) ∧ Mod w' w0 S) := fun u mu => by
      go_enter Tryz.func109, Tryz.ntmps109
      go_wp2_with (go_at_call 76; refine (H.out _ mu).mono ?_; rintro e w1 ⟨rfl, m1⟩)
      go_ret
      exact ⟨congrArg (fun b => Ending.returned (.bool b)) (decide_eq_false (by omega)), m1⟩
    go_enter Tryz.func68, Tryz.ntmps68
    go_wp2_with (go_at_call 109; refine (HC.out _ m).mono ?_; rintro e w1 ⟨rfl, m1⟩)
    go_ret
    exact ⟨by rw [← Hb.out]; rfl, m1⟩
end Go.Proofs.YtmhlebpchllpbaaGreatDoor
namespace Go.Sl
open Go
/-- An edit of a manifest. -/
structure EditV where
  added : List FileV
  removed : List Nat
  journal : Nat
  next : Nat
  seq : Nat
def textB (s : ByteArray) : List UInt8 := vint s.size ++ s.data.toList
def fileB (f : FileV) : List UInt8 := vint f.num ++ (vint f.level.toNat ++ (textB f.least ++ textB f.most))
/-- An edit's bytes. -/
def editB (x : EditV) : List UInt8 := vint x.added.length ++ (x.added.flatMap fileB ++ (vint x.removed.length ++ (x.removed.flatMap vint ++ (vint x.journal ++ (vint x.next ++ vint x.seq)))))
theorem textB_len {s : ByteArray} (h : s.size ≤ 32) : (textB s).length ≤ 42 := by
  have := vint_ten (n := s.size) (by omega)
  have e : s.data.toList.length = s.size := by rw [Array.length_toList]; rfl
  unfold textB
  rw [List.length_append, e]; omega
theorem fileB_len {f : FileV} (h : mayF f = true) (hn : f.num < 4294967296) : (fileB f).length ≤ 104 := by
  unfold mayF lvOk keyOk at h
  simp only [Bool.and_eq_true, decide_eq_true_eq] at h
  have h1 := textB_len h.1.1.2.2
  have h2 := textB_len h.1.2.2
  have h3 := vint_ten (n := f.num) (by omega)
  have h4 := vint_ten (n := f.level.toNat) (by omega)
  unfold fileB
  simp only [List.length_append]
  omega
theorem flat_take_succ {α : Type} (g : α → List UInt8) (l : List α) (i : Nat) (h : i < l.length) : (l.take (i + 1)).flatMap g = (l.take i).flatMap g ++ g l[i] := by
  rw [List.take_succ_eq_append_getElem h, List.flatMap_append, List.flatMap_singleton]
theorem flat_len {α : Type} (g : α → List UInt8) (k : Nat) : ∀ (l : List α), (∀ x ∈ l, (g x).length ≤ k) → (l.flatMap g).length ≤ k * l.length
  | [], _ => by simp
  | x :: l, h => by
    have h1 := h x (List.mem_cons_self ..)
    have h2 := flat_len g k l fun y hy => h y (List.mem_cons_of_mem _ hy)
    rw [List.flatMap_cons, List.length_append, List.length_cons, Nat.mul_succ]
    omega
end Go.Sl
namespace Go.Proofs.YtmhlebpchllpbaaGreatDoor
open Go.RowKit Go.Sl
attribute [local go_sem] cell_of cellAt_of frozen_of zero_names
theorem iPut_int (z : Int) (v : Nat) (hz : z = (v : Int)) (B : Option Addr) (n c : Nat) (xs : List UInt8) (hv : v < 18446744073709551616) (w w0 : World) (S : Asn) (m : Mod w w0 S) (r : Reads S B n (u8s xs)) (hn : n ≤ 1000000000) :
    Calls Tryz.prog 71 #[.slice B n c, .int .u64 z] w fun e w' => ∃ A' c', e = .returned (.slice A' (n + (vint v).length) c') ∧ Mod w' w0 (rowA 5 1 (.slice A' (n + (vint v).length) c') (n + (vint v).length) (u8s (xs ++ vint v)) * S) := by
  subst hz; exact iPut_spec B n c xs v hv w w0 S m r hn
set_option maxRecDepth 4000 in
set_option maxHeartbeats 8000000 in
theorem ePut1_spec (B : Option Addr) (n c : Nat) (xs : List UInt8) (f : FileV) (hm : mayF f = true) (hnum : f.num < 4294967296) (w w0 : World) (S : Asn) (m : Mod w w0 S) (r : Reads S B n (u8s xs)) (hn : n ≤ 900000000) :
    Calls Tryz.prog 70 #[.slice B n c, .agg #[.int .u32 (f.num : Int), .int .i64 f.level, .string f.least, .string f.most]] w fun e w' => ∃ A' c', e = .returned (.slice A' (n + (fileB f).length) c') ∧ Mod w' w0 (rowA 5 1 (.slice A' (n + (fileB f).length) c') (n + (fileB f).length) (u8s (xs ++ fileB f)) * S) := by
  have hm2 := hm
  unfold mayF lvOk keyOk at hm2
  simp only [Bool.and_eq_true, decide_eq_true_eq] at hm2
  obtain ⟨num, lv, a, b⟩ := f
  simp only at hm2 hnum ⊢
  obtain ⟨⟨⟨⟨hl0, hl4⟩, _, ha⟩, _, hb⟩, _⟩ := hm2
  obtain ⟨k, rfl⟩ : ∃ k : Nat, lv = k := ⟨lv.toNat, by omega⟩
  have e0 : fileB ⟨num, (k : Int), a, b⟩ = vint num ++ (vint k ++ (textB a ++ textB b)) := by unfold fileB; simp
  have h1 := vint_ten (n := num) (by omega)
  have h2 := vint_ten (n := k) (by omega)
  have h3 := textB_len ha
  have h4 := textB_len hb
  have ea : (textB a).length = (vint a.size).length + a.size := by unfold textB; rw [List.length_append, size_toList]
  have eb : (textB b).length = (vint b.size).length + b.size := by unfold textB; rw [List.length_append, size_toList]
  have hw1 : IntKind.u64.wrap (num : Int) = (num : Int) := by rw [IntKind.wrap_u64]; omega
  have hw2 : IntKind.u64.wrap (k : Int) = (k : Int) := by rw [IntKind.wrap_u64]; omega
  go_enter Tryz.func70, Tryz.ntmps70
  go_wp2_with fail
  go_region_held3 (fun u => u.cell? ⟨w.heap.size, 0, none⟩ = some (.int .u32 (num : Int)) ∧ u.cell? ⟨w.heap.size, 1, none⟩ = some (.int .i64 (k : Int))) (refine ⟨?_, ?_⟩ <;> (rw [cell_of]; rfl))
    (first
      | (go_at_call 71; refine (iPut_int _ k rfl A1 _ c1 _ (by omega) _ w0 _ m1 inferInstance (by omega)).mono ?_; rintro e w2 ⟨A2, c2, rfl, m2⟩)
      | (go_at_call 71; refine (iPut_int _ num rfl B n c xs (by omega) _ w0 _ inferInstance inferInstance (by omega)).mono ?_; rintro e w1 ⟨A1, c1, rfl, m1⟩))
  have m3 := Mod.keep (T := rowA 5 1 (.slice A2 (n + (vint num).length + (vint k).length) c2) (n + (vint num).length + (vint k).length) (u8s (xs ++ vint num ++ vint k)) * (Go.Sl.blk w.heap.size (.cells #[.int .u32 (num : Int), .int .i64 (k : Int), .string a, .string b] 44 (0, 0)) * S)) m2
  clear m1 m2 hw1 hw2
  go_wp2_with fail
  go_region_held3 (fun u => u.cell? ⟨w.heap.size, 2, none⟩ = some (.string a) ∧ u.cell? ⟨w.heap.size, 3, none⟩ = some (.string b)) (refine ⟨?_, ?_⟩ <;> (rw [cell_of]; rfl))
    (first
      | (go_at_call 72; refine (iPutText_spec A4 _ c4 _ b (by omega) _ w0 _ m4 inferInstance (by omega)).mono ?_; rintro e w5 ⟨A5, c5, rfl, m5⟩)
      | (go_at_call 72; refine (iPutText_spec A2 _ c2 _ a (by omega) _ w0 _ (Mod.drew (m := m3)) inferInstance (by omega)).mono ?_; rintro e w4 ⟨A4, c4, rfl, m4⟩))
  go_wp2_with fail
  go_ret
  refine ⟨A5, c5, ?_, ?_⟩
  · rw [e0]
    simp only [List.length_append, ea, eb, ← Nat.add_assoc]
    rfl
  · have e1 : xs ++ fileB ⟨num, (k : Int), a, b⟩ = xs ++ vint num ++ vint k ++ vint a.size ++ a.data.toList ++ vint b.size ++ b.data.toList := by rw [e0]; simp only [textB, List.append_assoc]
    have e2 : n + (fileB ⟨num, (k : Int), a, b⟩).length = n + (vint num).length + (vint k).length + (vint a.size).length + a.size + (vint b.size).length + b.size := by rw [e0]; simp only [List.length_append, ea, eb, ← Nat.add_assoc]
    rw [e1, e2]
    exact Mod.keep m5
set_option maxHeartbeats 1000000 in
theorem ePut2_spec (B : Option Addr) (n c : Nat) (xs : List UInt8) (v : Nat) (hv : v < 4294967296) (w w0 : World) (S : Asn) (m : Mod w w0 S) (r : Reads S B n (u8s xs)) (hn : n ≤ 900000000) :
    Calls Tryz.prog 74 #[.slice B n c, .int .u32 (v : Int)] w fun e w' => ∃ A' c', e = .returned (.slice A' (n + (vint v).length) c') ∧ Mod w' w0 (rowA 5 1 (.slice A' (n + (vint v).length) c') (n + (vint v).length) (u8s (xs ++ vint v)) * S) := by
  go_enter Tryz.func74, Tryz.ntmps74
  go_wp2_with (go_at_call 71; refine (iPut_int _ v rfl B n c xs (by omega) _ w0 _ m r (by omega)).mono ?_; rintro e w1 ⟨A1, c1, rfl, m1⟩)
  go_ret
  exact ⟨A1, c1, rfl, m1⟩
/-- What a slice of numbers of 32 bits reads as. -/
structure ReadsNums (S : Asn) (A : Option Addr) (n : Nat) (l : List Nat) : Prop where
  len : l.length = n
  cells : Reads S A n (l.map fun v : Nat => Value.int .u32 (v : Int))
theorem ReadsNums.lift {S' S : Asn} {A : Option Addr} {n : Nat} {l : List Nat} (s : Sub S' S) (r : ReadsNums S A n l) : ReadsNums S' A n l := ⟨r.len, reads_lift s r.cells⟩
theorem num_at {S : Asn} {b o n : Nat} {l : List Nat} (r : ReadsNums S (some ⟨b, o, none⟩) n l) {k : Nat} (hk : k < l.length) : CellAt S b (o + k) (.int .u32 (l[k] : Int)) :=
  reads_at_cell r.cells (by have := r.len; omega) k (by simp [hk])
theorem nums_some {w w0 : World} {S : Asn} {A : Option Addr} {n : Nat} {l : List Nat} (m : Mod w w0 S) (r : ReadsNums S A n l) {k : Nat} (hk : k < n) : ∃ b o, A = some ⟨b, o, none⟩ := by
  obtain ⟨ad, ha, hs, _⟩ := reads_cell m r.cells (by omega)
  obtain ⟨b, o, sp⟩ := ad
  simp only at hs
  subst hs
  exact ⟨b, o, ha⟩
set_option maxRecDepth 4000 in
set_option maxHeartbeats 4000000 in
theorem eputF_spec (B : Option Addr) (nb cb : Nat) (xs : List UInt8) (A : Option Addr) (n c : Nat) (l : List FileV) (w w0 : World) (S : Asn) (m : Mod w w0 S) (r : Reads S B nb (u8s xs)) (hnb : nb ≤ 1000) (ra : ReadsFiles S A n l) (hn : n ≤ 1100000) (hh : ∀ f ∈ l, mayF f = true ∧ f.num < 4294967296) :
    Calls Tryz.prog 69 #[.slice B nb cb, .slice A n c, .func (.func 70) #[] #[]] w fun e w' => ∃ A' c', e = .returned (.slice A' (nb + (vint n ++ l.flatMap fileB).length) c') ∧ Mod w' w0 (rowA 5 1 (.slice A' (nb + (vint n ++ l.flatMap fileB).length) c') (nb + (vint n ++ l.flatMap fileB).length) (u8s (xs ++ (vint n ++ l.flatMap fileB))) * S) := by
  have hv := vint_ten (n := n) (by omega)
  obtain ⟨V, hV⟩ : ∃ V, vint n ++ l.flatMap fileB = V := ⟨_, rfl⟩
  have HV := Lib.hid hV
  rw [hV]
  clear hV
  have HA := Lib.hid ra
  have HH := Lib.hid hh
  have hwn : IntKind.u64.wrap (n : Int) = (n : Int) := by rw [IntKind.wrap_u64]; omega
  clear ra hh
  go_enter Tryz.func69, Tryz.ntmps69
  go_wp2_with (go_at_call 71; refine (iPut_int _ n rfl B nb cb xs (by omega) _ w0 _ m r (by omega)).mono ?_; rintro e w1 ⟨A1, c1, rfl, m1⟩)
  obtain ⟨v0, hv0⟩ : ∃ v0, vint n = v0 := ⟨_, rfl⟩
  have Hv0 := Lib.hid hv0
  rw [hv0] at m1 hv
  rw [hv0]
  clear hv0 hwn
  go_loopg [0, 16] n (fun gk vb iv wr => ∃ (i : Nat) (Ar : Option Addr) (nr cr : Nat) (ys : List UInt8), i ≤ n ∧ gk = n - i ∧ iv = .int .i64 (i : Int) ∧ vb = .slice Ar nr cr ∧ nr ≤ nb + 10 + 104 * i ∧ Hid (nr = nb + ys.length) ∧ Hid (ys = v0 ++ (l.take i).flatMap fileB) ∧ Mod wr w0 (rowA 5 1 (.slice Ar nr cr) nr (u8s (xs ++ ys)) * S))
  case atStart => exact ⟨0, A1, _, c1, v0, Nat.zero_le _, rfl, rfl, rfl, by omega, rfl, by show _ = _; rw [List.take_zero, List.flatMap_nil, List.append_nil], m1⟩
  case round =>
    obtain ⟨i, Ar, nr, cr, ys, hi, hgk, rfl, rfl, hnr, Hnr, Hys, m2⟩ := hrel
    by_cases hlt : i < n
    · have hii : (i : Int) < (n : Int) := by omega
      have hil : i < l.length := by rw [HA.out.len]; exact hlt
      obtain ⟨b, o, rfl⟩ := files_some m2 (HA.out.lift inferInstance) hlt
      obtain ⟨c0, c1', c2, c3'⟩ := file_at HA.out hil
      have Hs := Lib.hid (flat_take_succ fileB l i hil)
      have hh := HH.out _ (List.getElem_mem hil)
      have hlen := fileB_len hh.1 hh.2
      generalize l[i] = f at *
      have HF := Lib.hid (fun (u : World) (SS : Asn) (mu : Mod u w0 SS) (rr : Reads SS Ar nr (u8s (xs ++ ys))) => ePut1_spec Ar nr cr (xs ++ ys) f hh.1 hh.2 u w0 SS mu rr (by omega))
      obtain ⟨FB, hFB⟩ : ∃ FB, fileB f = FB := ⟨_, rfl⟩
      rw [hFB] at HF Hs hlen
      clear hFB
      go_wp2_with (go_at_call 70; refine (HF.out _ _ (Mod.alloc (m := m2) _) inferInstance).mono ?_; rintro e w3 ⟨A3, c3, rfl, m3⟩)
      go_roundg (n - (i + 1))
      case measure => omega
      case rel => exact ⟨i + 1, A3, nr + FB.length, c3, ys ++ FB, hlt, rfl, by go_num, rfl, by omega, by show _ = _; rw [List.length_append, Hnr.out]; omega, by show _ = _; rw [Hs.out, Hys.out, List.append_assoc], by rw [← List.append_assoc]; exact Mod.keep m3⟩
    · have hii : ¬ (i : Int) < (n : Int) := by omega
      have hVe : V = ys := by
        rw [← HV.out, Hys.out, ← Hv0.out, List.take_of_length_le (by have := HA.out.len; omega)]
      have HVe := Lib.hid hVe
      clear hVe
      go_wp2_with fail
      go_ret
      exact ⟨Ar, cr, by rw [HVe.out, ← Hnr.out]; rfl, by rw [HVe.out, ← Hnr.out]; exact m2⟩
set_option maxRecDepth 4000 in
set_option maxHeartbeats 4000000 in
theorem eputN_spec (B : Option Addr) (nb cb : Nat) (xs : List UInt8) (A : Option Addr) (n c : Nat) (l : List Nat) (w w0 : World) (S : Asn) (m : Mod w w0 S) (r : Reads S B nb (u8s xs)) (hnb : nb ≤ 200000000) (ra : ReadsNums S A n l) (hn : n ≤ 1100000) (hh : ∀ v ∈ l, v < 4294967296) :
    Calls Tryz.prog 73 #[.slice B nb cb, .slice A n c, .func (.func 74) #[] #[]] w fun e w' => ∃ A' c', e = .returned (.slice A' (nb + (vint n ++ l.flatMap vint).length) c') ∧ Mod w' w0 (rowA 5 1 (.slice A' (nb + (vint n ++ l.flatMap vint).length) c') (nb + (vint n ++ l.flatMap vint).length) (u8s (xs ++ (vint n ++ l.flatMap vint))) * S) := by
  have hv := vint_ten (n := n) (by omega)
  obtain ⟨V, hV⟩ : ∃ V, vint n ++ l.flatMap vint = V := ⟨_, rfl⟩
  have HV := Lib.hid hV
  rw [hV]
  clear hV
  have HA := Lib.hid ra
  have HH := Lib.hid hh
  have hwn : IntKind.u64.wrap (n : Int) = (n : Int) := by rw [IntKind.wrap_u64]; omega
  clear ra hh
  go_enter Tryz.func73, Tryz.ntmps73
  go_wp2_with (go_at_call 71; refine (iPut_int _ n rfl B nb cb xs (by omega) _ w0 _ m r (by omega)).mono ?_; rintro e w1 ⟨A1, c1, rfl, m1⟩)
  obtain ⟨v0, hv0⟩ : ∃ v0, vint n = v0 := ⟨_, rfl⟩
  have Hv0 := Lib.hid hv0
  rw [hv0] at m1 hv
  rw [hv0]
  clear hv0 hwn
  go_loopg [0, 16] n (fun gk vb iv wr => ∃ (i : Nat) (Ar : Option Addr) (nr cr : Nat) (ys : List UInt8), i ≤ n ∧ gk = n - i ∧ iv = .int .i64 (i : Int) ∧ vb = .slice Ar nr cr ∧ nr ≤ nb + 10 + 10 * i ∧ Hid (nr = nb + ys.length) ∧ Hid (ys = v0 ++ (l.take i).flatMap vint) ∧ Mod wr w0 (rowA 5 1 (.slice Ar nr cr) nr (u8s (xs ++ ys)) * S))
  case atStart => exact ⟨0, A1, _, c1, v0, Nat.zero_le _, rfl, rfl, rfl, by omega, rfl, by show _ = _; rw [List.take_zero, List.flatMap_nil, List.append_nil], m1⟩
  case round =>
    obtain ⟨i, Ar, nr, cr, ys, hi, hgk, rfl, rfl, hnr, Hnr, Hys, m2⟩ := hrel
    by_cases hlt : i < n
    · have hii : (i : Int) < (n : Int) := by omega
      have hil : i < l.length := by rw [HA.out.len]; exact hlt
      obtain ⟨b, o, rfl⟩ := nums_some m2 (HA.out.lift inferInstance) hlt
      have c0 := num_at HA.out hil
      have Hs := Lib.hid (flat_take_succ vint l i hil)
      have hh := HH.out _ (List.getElem_mem hil)
      have hlen := vint_ten (n := l[i]) (by omega)
      generalize l[i] = f at *
      have HF := Lib.hid (fun (u : World) (SS : Asn) (mu : Mod u w0 SS) (rr : Reads SS Ar nr (u8s (xs ++ ys))) => ePut2_spec Ar nr cr (xs ++ ys) f hh u w0 SS mu rr (by omega))
      obtain ⟨FB, hFB⟩ : ∃ FB, vint f = FB := ⟨_, rfl⟩
      rw [hFB] at HF Hs hlen
      clear hFB
      go_wp2_with (go_at_call 74; refine (HF.out _ _ m2 inferInstance).mono ?_; rintro e w3 ⟨A3, c3, rfl, m3⟩)
      go_roundg (n - (i + 1))
      case measure => omega
      case rel => exact ⟨i + 1, A3, nr + FB.length, c3, ys ++ FB, hlt, rfl, by go_num, rfl, by omega, by show _ = _; rw [List.length_append, Hnr.out]; omega, by show _ = _; rw [Hs.out, Hys.out, List.append_assoc], by rw [← List.append_assoc]; exact Mod.keep m3⟩
    · have hii : ¬ (i : Int) < (n : Int) := by omega
      have hVe : V = ys := by
        rw [← HV.out, Hys.out, ← Hv0.out, List.take_of_length_le (by have := HA.out.len; omega)]
      have HVe := Lib.hid hVe
      clear hVe
      go_wp2_with fail
      go_ret
      exact ⟨Ar, cr, by rw [HVe.out, ← Hnr.out]; rfl, by rw [HVe.out, ← Hnr.out]; exact m2⟩
/-- Where an edit's two lists lie. -/
structure EditL where
  aA : Option Addr
  aC : Nat
  rA : Option Addr
  rC : Nat
def editCells (L : EditL) (x : EditV) : Array Value := #[.slice L.aA x.added.length L.aC, .slice L.rA x.removed.length L.rC, .int .u32 (x.journal : Int), .int .u32 (x.next : Int), .int .u64 (x.seq : Int)]
/-- An edit that is read. -/
structure ReadsEdit (S : Asn) (L : EditL) (x : EditV) : Prop where
  added : ReadsFiles S L.aA x.added.length x.added
  removed : ReadsNums S L.rA x.removed.length x.removed
  nums : ∀ f ∈ x.added, f.num < 4294967296
  nums2 : ∀ v ∈ x.removed, v < 4294967296
  lenA : x.added.length ≤ 1100000
  lenR : x.removed.length ≤ 1100000
  journal : x.journal < 4294967296
  next : x.next < 4294967296
  seq : x.seq < 18446744073709551616
  capA : x.added.length ≤ L.aC
  capR : x.removed.length ≤ L.rC
theorem ReadsEdit.lift {S' S : Asn} {L : EditL} {x : EditV} (s : Sub S' S) (r : ReadsEdit S L x) : ReadsEdit S' L x :=
  ⟨r.added.lift s, r.removed.lift s, r.nums, r.nums2, r.lenA, r.lenR, r.journal, r.next, r.seq, r.capA, r.capR⟩
def PutSays (x : EditV) (S : Asn) (w0 : World) (e : Ending) (w' : World) : Prop :=
  (fineF x.added = false ∧ e = .returned (.tuple #[.slice none 0 0, .int .i64 1]) ∧ Mod w' w0 S) ∨
  (fineF x.added = true ∧ ∃ A c, e = .returned (.tuple #[.slice A (editB x).length c, .int .i64 0]) ∧ Mod w' w0 (rowA 5 1 (.slice A (editB x).length c) (editB x).length (u8s (editB x)) * S))
set_option maxRecDepth 4000 in
set_option maxHeartbeats 8000000 in
theorem ePut_spec (L : EditL) (x : EditV) (w w0 : World) (S : Asn) (m : Mod w w0 S) (r : ReadsEdit S L x) :
    Calls Tryz.prog 30 #[.agg (editCells L x)] w (PutSays x S w0) := by
  obtain ⟨aA, aC, rA, rC⟩ := L
  obtain ⟨fa, rm, jn, nx, sq⟩ := x
  obtain ⟨r1, r2, hnA, hnR, hlA, hlR, hj, hx, hq, _, _⟩ := r
  simp only at r1 r2 hnA hnR hlA hlR hj hx hq
  show Calls Tryz.prog _ #[.agg #[.slice aA fa.length aC, .slice rA rm.length rC, .int .u32 (jn : Int), .int .u32 (nx : Int), .int .u64 (sq : Int)]] _ _
  obtain ⟨na, hna⟩ : ∃ na, fa.length = na := ⟨_, rfl⟩
  obtain ⟨nr, hnr⟩ : ∃ nr, rm.length = nr := ⟨_, rfl⟩
  have Hna := Lib.hid hna
  have Hnr := Lib.hid hnr
  rw [hna] at r1 hlA
  rw [hnr] at r2 hlR
  rw [hna, hnr]
  clear hna hnr
  have HF := Lib.hid (fun (u : World) (SS : Asn) (mu : Mod u w0 SS) (ra : ReadsFiles SS aA na fa) => efine_spec aA na aC fa u w0 SS mu ra (by omega))
  have hw1 : IntKind.u64.wrap (jn : Int) = (jn : Int) := by rw [IntKind.wrap_u64]; omega
  have hw2 : IntKind.u64.wrap (nx : Int) = (nx : Int) := by rw [IntKind.wrap_u64]; omega
  cases hf : fineF fa with
  | false =>
    rw [hf] at HF
    have Hf := Lib.hid hf
    clear hf hw1 hw2
    go_enter Tryz.func30, Tryz.ntmps30
    go_wp2_with (go_at_call 68; refine (HF.out _ _ (Mod.alloc (m := m) _) (r1.lift inferInstance)).mono ?_; rintro e w1 ⟨rfl, m1⟩)
    go_ret2
    exact .inl ⟨Hf.out, rfl, Mod.keep m1⟩
  | true =>
    rw [hf] at HF
    have hall : ∀ f ∈ fa, mayF f = true ∧ f.num < 4294967296 := fun f hf2 => ⟨(List.all_eq_true.1 hf) f hf2, hnA f hf2⟩
    have hb1 := flat_len fileB 104 fa fun f hf2 => fileB_len (hall f hf2).1 (hall f hf2).2
    have hb2 := flat_len vint 10 rm fun v hv => vint_ten (by have := hnR v hv; omega)
    rw [Hna.out] at hb1
    rw [Hnr.out] at hb2
    have hv1 := vint_ten (n := na) (by omega)
    have hv2 := vint_ten (n := nr) (by omega)
    have hv3 := vint_ten (n := jn) (by omega)
    have hv4 := vint_ten (n := nx) (by omega)
    have HPF := Lib.hid (fun (u : World) (SS : Asn) (mu : Mod u w0 SS) (ra : ReadsFiles SS aA na fa) => eputF_spec none 0 0 [] aA na aC fa u w0 SS mu (Reads.none_of _) (by omega) ra (by omega) hall)
    have Hf := Lib.hid hf
    obtain ⟨b1, hB1⟩ : ∃ b1, vint na ++ fa.flatMap fileB = b1 := ⟨_, rfl⟩
    have hl1 : b1.length ≤ 10 + 104 * na := by rw [← hB1, List.length_append]; omega
    obtain ⟨b2, hB2⟩ : ∃ b2, vint nr ++ rm.flatMap vint = b2 := ⟨_, rfl⟩
    have hl2 : b2.length ≤ 10 + 10 * nr := by rw [← hB2, List.length_append]; omega
    rw [hB1] at HPF
    simp only [Nat.zero_add, List.nil_append] at HPF
    have HPN := Lib.hid (fun (A1 : Option Addr) (c1 : Nat) (u : World) (SS : Asn) (mu : Mod u w0 SS) (rr : Reads SS A1 b1.length (u8s b1)) (ra : ReadsNums SS rA nr rm) => eputN_spec A1 b1.length c1 b1 rA nr rC rm u w0 SS mu rr (by omega) ra (by omega) hnR)
    rw [hB2] at HPN
    have HE : Hid (editB ⟨fa, rm, jn, nx, sq⟩ = b1 ++ b2 ++ vint jn ++ vint nx ++ vint sq) := by
      show _ = _
      unfold editB
      simp only [Hna.out, Hnr.out, ← hB1, ← hB2, List.append_assoc]
    clear hB1 hB2 hb1 hb2 hf hall hv1 hv2
    go_enter Tryz.func30, Tryz.ntmps30
    have flag := True.intro
    go_wp2_with first
      | (go_at_call 68; clear flag; refine (HF.out _ _ (Mod.alloc (m := m) _) (r1.lift inferInstance)).mono ?_; rintro e w1 ⟨rfl, m1⟩)
    have flag := True.intro
    go_wp2_with first
      | (go_at_call 69; clear flag; refine (HPF.out _ _ m1 (r1.lift inferInstance)).mono ?_; rintro e w2 ⟨A2, c2, rfl, m2⟩)
    have flag := True.intro
    go_wp2_with first
      | (go_at_call 73; clear flag; refine (HPN.out A2 c2 _ _ m2 inferInstance (r2.lift inferInstance)).mono ?_; rintro e w3 ⟨A3, c3, rfl, m3⟩)
    refine wp_loop_rounds 4 ?_
    rw [rounds_succ]
    have flag := True.intro
    go_wp2_with first
      | (go_at_call 71; clear flag; refine (iPut_int _ jn rfl A3 _ c3 (b1 ++ b2) (by omega) _ w0 _ (Mod.alloc (m := m3) _) inferInstance (by omega)).mono ?_; rintro e w4 ⟨A4, c4, rfl, m4⟩)
    rw [rounds_succ]
    have flag := True.intro
    go_wp2_with first
      | (go_at_call 71; clear flag; refine (iPut_int _ nx rfl A4 _ c4 (b1 ++ b2 ++ vint jn) (by omega) _ w0 _ m4 inferInstance (by omega)).mono ?_; rintro e w5 ⟨A5, c5, rfl, m5⟩)
    rw [rounds_succ]
    have flag := True.intro
    go_wp2_with first
      | (go_at_call 71; clear flag; refine (iPut_int _ sq rfl A5 _ c5 (b1 ++ b2 ++ vint jn ++ vint nx) (by omega) _ w0 _ m5 inferInstance (by omega)).mono ?_; rintro e w6 ⟨A6, c6, rfl, m6⟩)
    rw [rounds_succ]
    go_wp2_with fail
    go_ret2
    have el : (editB ⟨fa, rm, jn, nx, sq⟩).length = b1.length + b2.length + (vint jn).length + (vint nx).length + (vint sq).length := by rw [HE.out]; simp only [List.length_append]
    refine .inr ⟨Hf.out, A6, c6, ?_, ?_⟩
    · rw [el]; rfl
    · rw [el, HE.out]; exact Mod.keep m6
end Go.Proofs.YtmhlebpchllpbaaGreatDoor
namespace Go.Sl
/-- Where a number's last byte is. -/
def endOf (b : List UInt8) : Option Nat := (b.take 10).findIdx? (fun c => decide (c.toNat < 128))
/-- The number in the first k bytes: the last one is the highest. -/
def joinV : List UInt8 → Nat
  | [] => 0
  | c :: l => joinV l * 128 + c.toNat % 128
/-- What Get answers: the number, how many bytes, the error. -/
def getV (b : List UInt8) : Nat × Nat × Nat := match endOf b with
  | none => if b.length < 10 then (0, 0, 5) else (0, 0, 4)
  | some e => if (0 < e ∧ (b.getD e 0).toNat = 0) ∨ (e = 9 ∧ 1 < (b.getD e 0).toNat) then (0, 0, 4) else (joinV (b.take (e + 1)), e + 1, 0)
theorem endOf_lt {b : List UInt8} {e : Nat} (h : endOf b = some e) : e < b.length ∧ e < 10 ∧ (b.getD e 0).toNat < 128 := by
  unfold endOf at h
  obtain ⟨h1, h2, _⟩ := List.findIdx?_eq_some_iff_getElem.1 h
  rw [List.length_take] at h1
  have he : e < b.length := by omega
  refine ⟨he, by omega, ?_⟩
  rw [List.getElem_take] at h2
  rw [List.getD_eq_getElem?_getD, List.getElem?_eq_getElem he]
  simpa using h2
theorem getV_len (b : List UInt8) : (getV b).2.1 ≤ b.length := by
  unfold getV
  cases h : endOf b with
  | none => simp only; split <;> simp
  | some e =>
    have := endOf_lt h
    simp only
    split
    · simp
    · show e + 1 ≤ _; omega
theorem joinV_lt : ∀ (l : List UInt8), joinV l < 128 ^ l.length
  | [] => by simp [joinV]
  | c :: l => by
    have := joinV_lt l
    simp only [joinV, List.length_cons, Nat.pow_succ]
    omega
theorem joinV_snoc (x : UInt8) : ∀ (l : List UInt8), joinV (l ++ [x]) = joinV l + 128 ^ l.length * (x.toNat % 128)
  | [] => by simp [joinV]
  | c :: l => by
    simp only [List.cons_append, joinV, joinV_snoc x l, List.length_cons, Nat.pow_succ, Nat.add_mul]
    have : 128 ^ l.length * (x.toNat % 128) * 128 = 128 ^ l.length * 128 * (x.toNat % 128) := by rw [Nat.mul_assoc, Nat.mul_comm (x.toNat % 128), ← Nat.mul_assoc]
    omega
theorem joinV_drop : ∀ (l : List UInt8) (r : Nat), joinV (l.drop r) ≤ joinV l
  | [], r => by simp
  | c :: l, 0 => Nat.le_refl _
  | c :: l, r + 1 => by
    have := joinV_drop l r
    simp only [List.drop_succ_cons, joinV]
    omega
theorem joinV_small {b : List UInt8} {e : Nat} (h : endOf b = some e) (h2 : ¬ (e = 9 ∧ 1 < (b.getD e 0).toNat)) : joinV (b.take (e + 1)) < 18446744073709551616 := by
  obtain ⟨h3, h4, h5⟩ := endOf_lt h
  have e1 : b.take (e + 1) = b.take e ++ [b.getD e 0] := by
    rw [List.take_succ_eq_append_getElem h3, List.getD_eq_getElem?_getD, List.getElem?_eq_getElem h3]; rfl
  rw [e1, joinV_snoc]
  have hl : (b.take e).length = e := by rw [List.length_take]; omega
  have hj := joinV_lt (b.take e)
  rw [hl] at hj ⊢
  have h128 : 128 ^ e ≤ 128 ^ 9 := Nat.pow_le_pow_right (by omega) (by omega)
  by_cases h9 : e = 9
  · have hx : (b.getD e 0).toNat % 128 ≤ 1 := by omega
    have := Nat.mul_le_mul (Nat.le_refl (128 ^ e)) hx
    subst h9
    omega
  · have h8 : 128 ^ e ≤ 128 ^ 8 := Nat.pow_le_pow_right (by omega) (by omega)
    have := Nat.mul_le_mul h8 (show (b.getD e 0).toNat % 128 ≤ 127 by omega)
    omega
/-- One byte more of a number. -/
theorem joinV_step {b : List UInt8} {e r : Nat} (hr : r ≤ e) (he : e < b.length) : joinV ((b.take (e + 1)).drop r) = joinV ((b.take (e + 1)).drop (r + 1)) * 128 + (b.getD r 0).toNat % 128 := by
  have hl : r < (b.take (e + 1)).length := by rw [List.length_take]; omega
  rw [List.drop_eq_getElem_cons hl]
  simp only [joinV]
  rw [List.getElem_take, List.getD_eq_getElem?_getD, List.getElem?_eq_getElem (by omega)]
  rfl
end Go.Sl
namespace Go.Proofs.YtmhlebpchllpbaaGreatDoor
open Go.RowKit Go.Sl
attribute [local go_sem] cell_of cellAt_of frozen_of zero_names
set_option maxHeartbeats 1000000 in
theorem iGet1_spec (x : UInt8) (w w0 : World) (S : Asn) (m : Mod w w0 S) : Calls Tryz.prog 143 #[.int .u8 (x.toNat : Int)] w fun e w' => e = .returned (.bool (decide (x.toNat < 128))) ∧ Mod w' w0 S := by
  by_cases h : x.toNat < 128
  · have hi : (x.toNat : Int) < 128 := by omega
    rw [decide_eq_true h]
    go_enter Tryz.func143, Tryz.ntmps143
    go_wp2_with fail
    go_ret
    exact ⟨rfl, m⟩
  · have hi : ¬ (x.toNat : Int) < 128 := by omega
    rw [decide_eq_false h]
    go_enter Tryz.func143, Tryz.ntmps143
    go_wp2_with fail
    go_ret
    exact ⟨rfl, m⟩
def optInt : Option Nat → Int
  | some i => (i : Int)
  | none => -1
set_option maxHeartbeats 4000000 in
theorem indexB_spec (A : Option Addr) (n c : Nat) (l : List UInt8) (w w0 : World) (S : Asn) (m : Mod w w0 S) (r : Reads S A n (u8s l)) (hn : n ≤ 1000000000) :
    Calls Tryz.prog 142 #[.slice A n c, .func (.func 143) #[] #[]] w fun e w' => e = .returned (.int .i64 (optInt (l.findIdx? fun c => decide (c.toNat < 128)))) ∧ Mod w' w0 S := by
  have hl := reads_len m r
  rw [length_u8s] at hl
  have Hl := Lib.hid hl
  obtain ⟨z, hz⟩ : ∃ z, l.findIdx? (fun c => decide (c.toNat < 128)) = z := ⟨_, rfl⟩
  rw [hz]
  have Hz := Lib.hid hz
  have R := Lib.hid r
  clear r hz hl
  go_enter Tryz.func142, Tryz.ntmps142
  go_wp2_with fail
  go_loopg [8] n (fun gk iv wr => ∃ i : Nat, i ≤ n ∧ gk = n - i ∧ iv = .int .i64 (i : Int) ∧ Hid (∀ j (_ : j < l.length), j < i → ¬ l[j].toNat < 128) ∧ Mod wr w0 S)
  case atStart => exact ⟨0, Nat.zero_le _, rfl, rfl, (fun j _ hj => by omega), m⟩
  case round =>
    obtain ⟨i, hi, hgk, rfl, Hall, m1⟩ := hrel
    by_cases hlt : i < n
    · have hii : (i : Int) < (n : Int) := by omega
      have hil : i < l.length := by rw [Hl.out]; exact hlt
      obtain ⟨ad, ha, hsp, hc0⟩ := reads_cell m1 R.out (by omega)
      clear hc0
      obtain ⟨b, o, sp⟩ := ad
      simp only at hsp
      subst hsp ha
      have c0 : CellAt S b (o + i) (.int .u8 (l[i].toNat : Int)) := reads_at_cell R.out (by omega) i (by simp [u8s, hil])
      have HF := Lib.hid (fun (u : World) (mu : Mod u w0 S) => iGet1_spec l[i] u w0 S mu)
      by_cases hp : l[i].toNat < 128
      · rw [decide_eq_true hp] at HF
        have Hend : Hid (z = some i) := by
          show _ = _
          rw [← Hz.out, List.findIdx?_eq_some_iff_getElem]
          exact ⟨hil, decide_eq_true hp, fun j hj => by simpa using Hall.out j (by omega) hj⟩
        clear hp
        generalize l[i] = f at *
        go_wp2_with (go_at_call 143; refine (HF.out _ m1).mono ?_; rintro e w1 ⟨rfl, m2⟩)
        (try rw [Exit.noGoto_ret])
        go_ret
        exact ⟨by rw [Hend.out]; rfl, m2⟩
      · rw [decide_eq_false hp] at HF
        have Hnext : Hid (∀ j (_ : j < l.length), j < i + 1 → ¬ l[j].toNat < 128) := fun j hj hji => by
          by_cases e : j = i
          · subst e; exact hp
          · exact Hall.out j hj (by omega)
        clear hp
        generalize l[i] = f at *
        go_wp2_with (go_at_call 143; refine (HF.out _ m1).mono ?_; rintro e w1 ⟨rfl, m2⟩)
        go_roundg (n - (i + 1))
        case measure => omega
        case rel => exact ⟨i + 1, hlt, rfl, by go_num, Hnext, m2⟩
    · have hii : ¬ (i : Int) < (n : Int) := by omega
      have Hend : Hid (z = none) := by
        show _ = _
        rw [← Hz.out, List.findIdx?_eq_none_iff]
        intro x hx
        obtain ⟨j, hj, rfl⟩ := List.mem_iff_getElem.1 hx
        exact decide_eq_false (Hall.out j hj (by have := Hl.out; omega))
      go_wp2_with fail
      go_ret
      exact ⟨by rw [Hend.out]; rfl, m1⟩
theorem or_low (V : Nat) (y : UInt8) (hV : V * 128 < 18446744073709551616) : bits .or .u64 ((V : Int) * 128) (IntKind.u64.wrap (bits .andNot .u8 (y.toNat : Int) 128)) = ((V * 128 + y.toNat % 128 : Nat) : Int) := by
  have h : ∀ x : Fin 256, bits .andNot .u8 (x.val : Int) 128 = ((x.val % 128 : Nat) : Int) := by decide +kernel
  have h2 := h ⟨y.toNat, y.toNat_lt⟩
  simp only at h2
  have e1 : IntKind.u64.wrap ((y.toNat % 128 : Nat) : Int) = ((y.toNat % 128 : Nat) : Int) := by rw [IntKind.wrap_u64]; omega
  have e2 : ((V : Int) * 128) = ((V * 128 : Nat) : Int) := by omega
  rw [h2, e1, e2, u64_or_nat _ _ (by omega) (by omega), nat_join 7 (V * 128) (y.toNat % 128) (by omega) (by omega)]
def loops (b : List UInt8) (e : Nat) : Prop := ¬ ((0 < e ∧ (b.getD e 0).toNat = 0) ∨ (e = 9 ∧ 1 < (b.getD e 0).toNat))
set_option maxRecDepth 4000 in
set_option maxHeartbeats 8000000 in
theorem iGet_spec (A : Option Addr) (n c : Nat) (b : List UInt8) (w w0 : World) (S : Asn) (m : Mod w w0 S) (r : Reads S A n (u8s b)) (hn : n ≤ 1000000000) (hc : n ≤ c) :
    Calls Tryz.prog 107 #[.slice A n c] w fun e w' => e = .returned (.tuple #[.int .u64 ((getV b).1 : Int), .int .i64 ((getV b).2.1 : Int), .int .i64 ((getV b).2.2 : Int)]) ∧ Mod w' w0 S := by
  have hl := reads_len m r
  rw [length_u8s] at hl
  obtain ⟨k, hk⟩ : ∃ k, min n 10 = k := ⟨_, rfl⟩
  have hki : min (n : Int) 10 = (k : Int) := by omega
  have rk : Reads S A k (u8s (b.take 10)) := by
    have h := r.pre k (by omega)
    have e : (u8s b).take k = u8s (b.take 10) := by
      rw [← hk]
      by_cases h10 : n ≤ 10
      · rw [Nat.min_eq_left h10, List.take_of_length_le (by rw [length_u8s]; omega), List.take_of_length_le (by omega)]
      · rw [Nat.min_eq_right (by omega)]; simp [u8s]
    rwa [e] at h
  have HI := Lib.hid (fun (u : World) (mu : Mod u w0 S) => indexB_spec A k c (b.take 10) u w0 S mu rk (by omega))
  obtain ⟨z, hz⟩ : ∃ z, getV b = z := ⟨_, rfl⟩
  rw [hz]
  have Hz := Lib.hid hz
  have Hl := Lib.hid hl
  have hkn : k ≤ n := by omega
  clear hz rk hk
  cases he : endOf b with
  | none =>
    have he2 := he
    unfold endOf at he2
    rw [he2] at HI
    by_cases h10 : n < 10
    · have hze : z = (0, 0, 5) := by rw [← Hz.out]; unfold getV; rw [he]; simp only; rw [if_pos (by omega)]
      subst hze
      have h10i : (n : Int) < 10 := by omega
      clear he he2 hl
      go_enter Tryz.func107, Tryz.ntmps107
      go_wp2_with (go_at_call 142; refine (HI.out _ m).mono ?_; rintro e w1 ⟨rfl, m1⟩; simp only [optInt])
      go_ret3
      exact ⟨rfl, m1⟩
    · have hze : z = (0, 0, 4) := by rw [← Hz.out]; unfold getV; rw [he]; simp only; rw [if_neg (by omega)]
      subst hze
      have h10i : ¬ (n : Int) < 10 := by omega
      clear he he2 hl
      go_enter Tryz.func107, Tryz.ntmps107
      go_wp2_with (go_at_call 142; refine (HI.out _ m).mono ?_; rintro e w1 ⟨rfl, m1⟩; simp only [optInt])
      go_ret3
      exact ⟨rfl, m1⟩
  | some e =>
    have he2 := he
    unfold endOf at he2
    rw [he2] at HI
    obtain ⟨h1, h2, h3⟩ := endOf_lt he
    have hen : e < n := by omega
    obtain ⟨ad, hA, hsp, hc0⟩ := reads_cell m r (by omega)
    clear hc0
    obtain ⟨bb, o, sp⟩ := ad
    simp only at hsp
    subst hsp hA
    obtain ⟨x, hx⟩ : ∃ x, b.getD e 0 = x := ⟨_, rfl⟩
    have cx : CellAt S bb (o + e) (.int .u8 (x.toNat : Int)) := reads_at_cell r (by omega) e (by rw [← hx, List.getD_eq_getElem?_getD, List.getElem?_eq_getElem h1]; simp [u8s, h1])
    have hxl : x.toNat < 128 := by rw [← hx]; exact h3
    have He := Lib.hid he
    have hg : z = if (0 < e ∧ x.toNat = 0) ∨ (e = 9 ∧ 1 < x.toNat) then (0, 0, 4) else (joinV (b.take (e + 1)), e + 1, 0) := by
      rw [← Hz.out]; unfold getV; rw [he]; simp only [hx]
    have Hx := Lib.hid hx
    clear he he2 h3 hx hl
    have hci : (n : Int) ≤ (c : Int) := by omega
    by_cases hP : (0 < e ∧ x.toNat = 0) ∨ (e = 9 ∧ 1 < x.toNat)
    · rw [if_pos hP] at hg
      subst hg
      have hP2 : (0 < e ∧ x.toNat = 0) ∨ (0 < e ∧ ¬ x.toNat = 0 ∧ e = 9 ∧ 1 < x.toNat) := by omega
      clear hP
      rcases hP2 with ⟨p1, p2⟩ | ⟨p1, p2, p3, p4⟩
      · have q1 : (0 : Int) < (e : Int) := by omega
        have q2 : ((x.toNat : Int) == 0) = true := by rw [beq_iff_eq]; omega
        have q3 : (x.toNat : Int) = 0 := by omega
        have q4 : ¬ (e : Int) < 0 := by omega
        clear p1 p2
        go_enter Tryz.func107, Tryz.ntmps107
        go_wp2_with (go_at_call 142; refine (HI.out _ m).mono ?_; rintro e w1 ⟨rfl, m1⟩; simp only [optInt])
        go_ret3
        exact ⟨rfl, m1⟩
      · subst p3
        have q2 : ((x.toNat : Int) == 0) = false := beq_eq_false_iff_ne.2 (by omega)
        have q5 : (1 : Int) < (x.toNat : Int) := by omega
        clear p1 p2 p4
        go_enter Tryz.func107, Tryz.ntmps107
        go_wp2_with (go_at_call 142; refine (HI.out _ m).mono ?_; rintro e w1 ⟨rfl, m1⟩; simp only [optInt])
        go_ret3
        exact ⟨rfl, m1⟩
    · rw [if_neg hP] at hg
      subst hg
      have hS := joinV_small He.out (by rw [Hx.out]; exact fun h => hP (.inr h))
      have HS := Lib.hid (fun r => Nat.lt_of_le_of_lt (joinV_drop (b.take (e + 1)) r) hS)
      have hcase : e = 0 ∨ (0 < e ∧ ¬ x.toNat = 0 ∧ ¬ e = 9) ∨ (e = 9 ∧ ¬ x.toNat = 0 ∧ ¬ 1 < x.toNat) := by omega
      have R := Lib.hid r
      have Hl2 := Lib.hid h1
      clear hP hS
      rcases hcase with rfl | ⟨p1, p2, p3⟩ | ⟨rfl, p2, p3⟩
      · go_enter Tryz.func107, Tryz.ntmps107
        go_wp2_with (go_at_call 142; refine (HI.out _ m).mono ?_; rintro e w1 ⟨rfl, m1⟩; simp only [optInt, Int.natCast_zero])
        clear cx
        go_loopg [2, 6] (0 + 1) (fun gk vn vi wr => ∃ (r : Nat) (z : Int), r ≤ 0 + 1 ∧ gk = r ∧ z + 1 = (r : Int) ∧ vi = .int .i64 z ∧ vn = .int .u64 ((joinV ((b.take (0 + 1)).drop r) : Nat) : Int) ∧ Mod wr w0 S)
        case atStart => exact ⟨0 + 1, 0, Nat.le_refl _, rfl, by omega, rfl, by rw [List.drop_of_length_le (by rw [List.length_take]; exact Nat.min_le_left _ _)]; rfl, m1⟩
        case round =>
          obtain ⟨r, z, hr, hgk, hz, rfl, rfl, m2⟩ := hrel
          cases r with
          | zero =>
            obtain rfl : z = -1 := by omega
            rw [List.drop_zero]
            go_wp2_with fail
            (try rw [Exit.noGoto_ret])
            go_ret3
            exact ⟨rfl, m2⟩
          | succ q =>
            obtain rfl : z = (q : Int) := by omega
            have hst := joinV_step (b := b) (e := 0) (r := q) (by omega) (by omega)
            have hlt := HS.out q
            rw [hst] at hlt
            obtain ⟨y, hy⟩ : ∃ y, b.getD q 0 = y := ⟨_, rfl⟩
            rw [hy] at hst hlt
            have hqb : q < b.length := by omega
            have cy : CellAt S bb (o + q) (.int .u8 (y.toNat : Int)) := reads_at_cell R.out (by omega) q (by rw [← hy, List.getD_eq_getElem?_getD, List.getElem?_eq_getElem hqb]; simp [u8s, hqb])
            have Hst := Lib.hid hst
            have hyl := y.toNat_lt
            clear hst hy hz
            generalize joinV ((b.take (0 + 1)).drop (q + 1)) = V at *
            have hV : V * 128 < 18446744073709551616 := by omega
            have hqi : (q : Int) < (n : Int) := by omega
            have Hor := Lib.hid (or_low V y hV)
            clear hlt
            go_wp2_with fail
            go_roundg q
            case measure => omega
            case rel => exact ⟨q, (q : Int) - 1, by omega, rfl, by omega, rfl, by rw [Hst.out, ← Hor.out], m2⟩
      · have q1 : (0 : Int) < (e : Int) := by omega
        have q2 : ((x.toNat : Int) == 0) = false := beq_eq_false_iff_ne.2 (by omega)
        have q3 : ((e : Int) == 9) = false := beq_eq_false_iff_ne.2 (by omega)
        have q4 : ¬ (e : Int) < 0 := by omega
        clear p1 p2 p3
        go_enter Tryz.func107, Tryz.ntmps107
        go_wp2_with (go_at_call 142; refine (HI.out _ m).mono ?_; rintro e w1 ⟨rfl, m1⟩; simp only [optInt])
        clear cx
        go_loopg [2, 6] (e + 1) (fun gk vn vi wr => ∃ (r : Nat) (z : Int), r ≤ e + 1 ∧ gk = r ∧ z + 1 = (r : Int) ∧ vi = .int .i64 z ∧ vn = .int .u64 ((joinV ((b.take (e + 1)).drop r) : Nat) : Int) ∧ Mod wr w0 S)
        case atStart => exact ⟨e + 1, (e : Int), Nat.le_refl _, rfl, by omega, rfl, by rw [List.drop_of_length_le (by rw [List.length_take]; exact Nat.min_le_left _ _)]; rfl, m1⟩
        case round =>
          obtain ⟨r, z, hr, hgk, hz, rfl, rfl, m2⟩ := hrel
          cases r with
          | zero =>
            obtain rfl : z = -1 := by omega
            rw [List.drop_zero]
            go_wp2_with fail
            (try rw [Exit.noGoto_ret])
            go_ret3
            exact ⟨rfl, m2⟩
          | succ q =>
            obtain rfl : z = (q : Int) := by omega
            have hst := joinV_step (b := b) (e := e) (r := q) (by omega) (by omega)
            have hlt := HS.out q
            rw [hst] at hlt
            obtain ⟨y, hy⟩ : ∃ y, b.getD q 0 = y := ⟨_, rfl⟩
            rw [hy] at hst hlt
            have hqb : q < b.length := by omega
            have cy : CellAt S bb (o + q) (.int .u8 (y.toNat : Int)) := reads_at_cell R.out (by omega) q (by rw [← hy, List.getD_eq_getElem?_getD, List.getElem?_eq_getElem hqb]; simp [u8s, hqb])
            have Hst := Lib.hid hst
            have hyl := y.toNat_lt
            clear hst hy hz
            generalize joinV ((b.take (e + 1)).drop (q + 1)) = V at *
            have hV : V * 128 < 18446744073709551616 := by omega
            have hqi : (q : Int) < (n : Int) := by omega
            have Hor := Lib.hid (or_low V y hV)
            clear hlt
            go_wp2_with fail
            go_roundg q
            case measure => omega
            case rel => exact ⟨q, (q : Int) - 1, by omega, rfl, by omega, rfl, by rw [Hst.out, ← Hor.out], m2⟩
      · have q2 : ((x.toNat : Int) == 0) = false := beq_eq_false_iff_ne.2 (by omega)
        have q5 : ¬ (1 : Int) < (x.toNat : Int) := by omega
        clear p2 p3
        go_enter Tryz.func107, Tryz.ntmps107
        go_wp2_with (go_at_call 142; refine (HI.out _ m).mono ?_; rintro e w1 ⟨rfl, m1⟩; simp only [optInt])
        clear cx
        go_loopg [2, 6] (9 + 1) (fun gk vn vi wr => ∃ (r : Nat) (z : Int), r ≤ 9 + 1 ∧ gk = r ∧ z + 1 = (r : Int) ∧ vi = .int .i64 z ∧ vn = .int .u64 ((joinV ((b.take (9 + 1)).drop r) : Nat) : Int) ∧ Mod wr w0 S)
        case atStart => exact ⟨9 + 1, 9, Nat.le_refl _, rfl, by omega, rfl, by rw [List.drop_of_length_le (by rw [List.length_take]; exact Nat.min_le_left _ _)]; rfl, m1⟩
        case round =>
          obtain ⟨r, z, hr, hgk, hz, rfl, rfl, m2⟩ := hrel
          cases r with
          | zero =>
            obtain rfl : z = -1 := by omega
            rw [List.drop_zero]
            go_wp2_with fail
            (try rw [Exit.noGoto_ret])
            go_ret3
            exact ⟨rfl, m2⟩
          | succ q =>
            obtain rfl : z = (q : Int) := by omega
            have hst := joinV_step (b := b) (e := 9) (r := q) (by omega) (by omega)
            have hlt := HS.out q
            rw [hst] at hlt
            obtain ⟨y, hy⟩ : ∃ y, b.getD q 0 = y := ⟨_, rfl⟩
            rw [hy] at hst hlt
            have hqb : q < b.length := by omega
            have cy : CellAt S bb (o + q) (.int .u8 (y.toNat : Int)) := reads_at_cell R.out (by omega) q (by rw [← hy, List.getD_eq_getElem?_getD, List.getElem?_eq_getElem hqb]; simp [u8s, hqb])
            have Hst := Lib.hid hst
            have hyl := y.toNat_lt
            clear hst hy hz
            generalize joinV ((b.take (9 + 1)).drop (q + 1)) = V at *
            have hV : V * 128 < 18446744073709551616 := by omega
            have hqi : (q : Int) < (n : Int) := by omega
            have Hor := Lib.hid (or_low V y hV)
            clear hlt
            go_wp2_with fail
            go_roundg q
            case measure => omega
            case rel => exact ⟨q, (q : Int) - 1, by omega, rfl, by omega, rfl, by rw [Hst.out, ← Hor.out], m2⟩
end Go.Proofs.YtmhlebpchllpbaaGreatDoor
namespace Go.Sl
/-- What GetText answers: the text, how many bytes, the error. -/
def getT (b : List UInt8) : List UInt8 × Nat × Nat :=
  if (getV b).2.2 ≠ 0 then ([], 0, (getV b).2.2)
  else if b.length - (getV b).2.1 < (getV b).1 then ([], 0, 5)
  else ((b.drop (getV b).2.1).take (getV b).1, (getV b).2.1 + (getV b).1, 0)
theorem getV_err (b : List UInt8) : (getV b).2.2 = 0 ∨ (getV b).2.2 = 4 ∨ (getV b).2.2 = 5 := by
  unfold getV
  split
  · split <;> simp
  · split <;> simp
theorem getV_pos {b : List UInt8} (h : (getV b).2.2 = 0) : 1 ≤ (getV b).2.1 := by
  unfold getV at h ⊢
  cases he : endOf b with
  | none =>
    rw [he] at h
    simp only at h
    split at h <;> cases h
  | some e =>
    rw [he] at h
    simp only at h ⊢
    split at h
    · cases h
    · rename_i hn
      rw [if_neg hn]
      show 1 ≤ e + 1
      omega
theorem getV_small (b : List UInt8) : (getV b).1 < 18446744073709551616 := by
  unfold getV
  cases h : endOf b with
  | none => simp only; split <;> decide
  | some e =>
    simp only
    split
    · decide
    · rename_i hn
      exact joinV_small h fun h2 => hn (.inr h2)
theorem getT_len (b : List UInt8) : (getT b).2.1 ≤ b.length := by
  have := getV_len b
  unfold getT
  split
  · simp
  · split
    · simp
    · show (getV b).2.1 + (getV b).1 ≤ _
      omega
end Go.Sl
namespace Go.Proofs.YtmhlebpchllpbaaGreatDoor
open Go.RowKit Go.Sl
attribute [local go_sem] cell_of cellAt_of frozen_of zero_names conv_bs
set_option maxRecDepth 4000 in
set_option maxHeartbeats 8000000 in
theorem iGetText_spec (A : Option Addr) (n c : Nat) (b : List UInt8) (w w0 : World) (S : Asn) (m : Mod w w0 S) (r : Reads S A n (u8s b)) (hn : n ≤ 1000000000) (hc : n ≤ c) :
    Calls Tryz.prog 141 #[.slice A n c] w fun e w' => e = .returned (.tuple #[.string ⟨(getT b).1.toArray⟩, .int .i64 ((getT b).2.1 : Int), .int .i64 ((getT b).2.2 : Int)]) ∧ Mod w' w0 S := by
  have hl := reads_len m r
  rw [length_u8s] at hl
  have HG := Lib.hid (iGet_spec A n c b w w0 S m r hn hc)
  have hk := getV_len b
  have he := getV_err b
  have hs := getV_small b
  have hps : (getV b).2.2 = 0 → 1 ≤ (getV b).2.1 := getV_pos
  obtain ⟨z, hz⟩ : ∃ z, getT b = z := ⟨_, rfl⟩
  have hz2 : z = if (getV b).2.2 ≠ 0 then ([], 0, (getV b).2.2) else if b.length - (getV b).2.1 < (getV b).1 then ([], 0, 5) else ((b.drop (getV b).2.1).take (getV b).1, (getV b).2.1 + (getV b).1, 0) := by rw [← hz]; rfl
  rw [hz]
  clear hz
  generalize getV b = g at *
  obtain ⟨v, k, er⟩ := g
  simp only at hk he hs hz2 HG hps
  rw [hl] at hk hz2
  by_cases h0 : er = 0
  · subst h0
    rw [if_neg (by simp)] at hz2
    by_cases h1 : n - k < v
    · rw [if_pos h1] at hz2
      subst hz2
      have hw : IntKind.u64.wrap ((n : Int) - (k : Int)) = ((n - k : Nat) : Int) := by rw [IntKind.wrap_u64]; omega
      have h1i : ((n - k : Nat) : Int) < (v : Int) := by omega
      have hkn : (k : Int) ≤ (n : Int) := by omega
      clear he hl m r h1
      go_enter Tryz.func141, Tryz.ntmps141
      go_wp2_with (go_at_call 107; refine HG.out.mono ?_; rintro e w1 ⟨rfl, m1⟩)
      go_ret3
      exact ⟨rfl, m1⟩
    · rw [if_neg h1] at hz2
      subst hz2
      have hw : IntKind.u64.wrap ((n : Int) - (k : Int)) = ((n - k : Nat) : Int) := by rw [IntKind.wrap_u64]; omega
      have h1i : ¬ ((n - k : Nat) : Int) < (v : Int) := by omega
      have hkn : (k : Int) ≤ (n : Int) := by omega
      have hw2 : IntKind.i64.wrap (v : Int) = (v : Int) := by rw [IntKind.wrap_i64]; omega
      have hkv : k + v ≤ n := by omega
      have hkc : (k : Int) + (v : Int) ≤ (c : Int) := by omega
      obtain ⟨ad, hA, hsp, hc0⟩ := reads_cell m r (by omega)
      clear hc0
      obtain ⟨bb, o, sp⟩ := ad
      simp only at hsp
      subst hsp hA
      obtain ⟨part, hpart⟩ : ∃ part, (b.drop k).take v = part := ⟨_, rfl⟩
      have rp : Reads S (some ⟨bb, o + k, none⟩) v (u8s part) := by
        have h := r.sub k v (by omega)
        rw [u8s_part, add_off _ _ rfl, hpart] at h
        exact h
      have hpl : part.length = v := by rw [← hpart, List.length_take, List.length_drop]; omega
      rw [hpart]
      by_cases hck : c = k
      · subst hck
        have hv0 : v = 0 := by omega
        subst hv0
        have hp0 : part = [] := List.eq_nil_of_length_eq_zero hpl
        subst hp0
        have rp2 : Reads S (some ⟨bb, o, none⟩) 0 (u8s []) := Reads.none_of _
        clear he hl m h1 h1i hpart rp hpl
        go_enter Tryz.func141, Tryz.ntmps141
        go_wp2_with (go_at_call 107; refine HG.out.mono ?_; rintro e w1 ⟨rfl, m1⟩)
        go_ret3
        exact ⟨rfl, m1⟩
      · clear he hl m h1 h1i hpart hpl
        go_enter Tryz.func141, Tryz.ntmps141
        go_wp2_with (go_at_call 107; refine HG.out.mono ?_; rintro e w1 ⟨rfl, m1⟩)
        go_ret3
        exact ⟨rfl, m1⟩
  · rw [if_pos (by simpa using h0)] at hz2
    subst hz2
    have h0i : ((er : Int) == 0) = false := beq_eq_false_iff_ne.2 (by omega)
    have h0j : ((er : Int) != 0) = true := bne_iff_ne.2 (by omega)
    clear he hl m r hs hk h0 hps
    go_enter Tryz.func141, Tryz.ntmps141
    go_wp2_with (go_at_call 107; refine HG.out.mono ?_; rintro e w1 ⟨rfl, m1⟩)
    go_ret3
    exact ⟨rfl, m1⟩
end Go.Proofs.YtmhlebpchllpbaaGreatDoor
namespace Go.Sl
open Go
/-- What a reader stands at: the bytes to come, and whether something was wrong. -/
abbrev RdS := List UInt8 × Bool
def pNum (most : Nat) (s : RdS) : Nat × RdS := ((getV s.1).1, (s.1.drop (getV s.1).2.1, s.2 || !(decide ((getV s.1).2.2 = 0) && decide ((getV s.1).1 ≤ most))))
def pText (s : RdS) : List UInt8 × RdS := ((getT s.1).1, (s.1.drop (getT s.1).2.1, s.2 || !(decide ((getT s.1).2.2 = 0))))
def m32 : Nat := 4294967295
theorem m32_int : (4294967295 : Int) = (m32 : Int) := rfl
def pU32 (s : RdS) : Nat × RdS := ((pNum m32 s).1 % 4294967296, (pNum m32 s).2)
def pFile (s : RdS) : FileV × RdS :=
  let a := pU32 s; let l := pNum 4 a.2; let t := pText l.2; let u := pText t.2
  (⟨a.1, Go.RowKit.wrap64 (l.1 : Int), ⟨t.1.toArray⟩, ⟨u.1.toArray⟩⟩, u.2)
end Go.Sl
namespace Go.Proofs.YtmhlebpchllpbaaGreatDoor
open Go.RowKit Go.Sl
attribute [local go_sem] cell_of cellAt_of frozen_of zero_names
/-- What the world at hand is known to hold, read otherwise. -/
theorem mod_inst {w w0 : World} {S T : Asn} [m : Mod w w0 S] (h : S = T) : Mod w w0 T := h ▸ m
/-- A reader in the heap: where it stands. -/
def Rd (g : Nat) (s : RdS) (G F : Asn) (w0 w : World) : Prop :=
  ∃ (A : Option Addr) (n c : Nat), s.1.length = n ∧ n ≤ c ∧ n ≤ 1000000000 ∧ Reads G A n (u8s s.1) ∧ Mod w w0 (Go.Sl.blk g (.cells #[.slice A n c, .bool s.2] 113 (0, 0)) * F)
theorem Rd.turn {g : Nat} {s : RdS} {G F F' : Asn} {w0 w w1 : World} (h : Rd g s G F w0 w) (m : ∀ X : Asn, Mod w w0 (X * F) → Mod w1 w0 (X * F')) : Rd g s G F' w0 w1 := by
  obtain ⟨A, n, c, h1, h2, h3, h4, h5⟩ := h
  exact ⟨A, n, c, h1, h2, h3, h4, m _ h5⟩
theorem Rd.rest {g : Nat} {s : RdS} {G F : Asn} {w0 w : World} (h : Rd g s G F w0 w) : Mod w w0 F := by
  obtain ⟨A, n, c, _, _, _, _, h5⟩ := h
  exact Mod.drop (m := h5)
set_option maxHeartbeats 4000000 in
theorem etook_spec (g : Nat) (b : List UInt8) (bad ok : Bool) (k : Nat) (hk : k ≤ b.length) (G F : Asn) (w w0 : World) (h : Rd g (b, bad) G F w0 w) :
    Calls Tryz.prog 108 #[ptr g, .int .i64 (k : Int), .bool ok] w fun e w' => e = .returned (.tuple #[]) ∧ Rd g (b.drop k, bad || !ok) G F w0 w' := by
  obtain ⟨A, n, c, h1, h2, h3, h4, m⟩ := h
  simp only at h1 h4 m
  have hkn : k ≤ n := by omega
  have hr := reads_cut h4 hkn h2
  have Hl : Hid ((b.drop k).length = n - k) := by show _ = _; rw [List.length_drop, h1]
  have hki : (k : Int) ≤ (n : Int) := by omega
  have hnc : (n : Int) ≤ (c : Int) := by omega
  clear h4 h1 hk
  by_cases hck : c = k
  · subst hck
    rw [if_pos rfl] at hr
    have hz : n - c = 0 := by omega
    rw [hz] at hr
    have Hz := Lib.hid hz
    clear hz
    cases bad <;> cases ok
    all_goals
      go_enter Tryz.func108, Tryz.ntmps108
      go_wp2_with fail
      go_end0
      refine ⟨rfl, A, 0, 0, by rw [Hl.out, Hz.out], Nat.le_refl _, by omega, hr, ?_⟩
      exact mod_inst (by simp only [List.setIfInBounds_toArray, List.set_cons_zero, List.set_cons_succ, emp_sep]; rfl)
  · rw [if_neg hck] at hr
    cases bad <;> cases ok
    all_goals
      go_enter Tryz.func108, Tryz.ntmps108
      go_wp2_with fail
      go_end0
      refine ⟨rfl, _, n - k, c - k, Hl.out, by omega, by omega, hr, ?_⟩
      exact mod_inst (by simp only [List.setIfInBounds_toArray, List.set_cons_zero, List.set_cons_succ, emp_sep]; rfl)
set_option maxHeartbeats 4000000 in
theorem enumber_spec (g : Nat) (z : Int) (most : Nat) (hz : z = (most : Int)) (s : RdS) (G F : Asn) (hs : Sub F G) (w w0 : World) (h : Rd g s G F w0 w) :
    Calls Tryz.prog 66 #[ptr g, .int .u64 z] w fun e w' => e = .returned (.int .u64 ((pNum most s).1 : Int)) ∧ Rd g (pNum most s).2 G F w0 w' := by
  subst hz
  obtain ⟨b, bad⟩ := s
  obtain ⟨A, n, c, h1, h2, h3, h4, m⟩ := h
  simp only at h1 h4 m
  have HG := Lib.hid (fun (u : World) (mu : Mod u w0 (Go.Sl.blk g (.cells #[.slice A n c, .bool bad] 113 (0, 0)) * F)) => iGet_spec A n c b u w0 _ mu (reads_lift (inferInstance : Sub _ F) (reads_lift hs h4)) h3 h2)
  have hk := getV_len b
  have he := getV_err b
  have hsm := getV_small b
  have HT := Lib.hid (fun (ok : Bool) (u : World) (mu : Mod u w0 (Go.Sl.blk g (.cells #[.slice A n c, .bool bad] 113 (0, 0)) * F)) => etook_spec g b bad ok (getV b).2.1 hk G F u w0 ⟨A, n, c, h1, h2, h3, h4, mu⟩)
  have HP : Hid (∀ most, pNum most (b, bad) = ((getV b).1, (b.drop (getV b).2.1, bad || !(decide ((getV b).2.2 = 0) && decide ((getV b).1 ≤ most))))) := fun _ => rfl
  clear h1 h4 hk
  generalize getV b = z at *
  obtain ⟨v, k, er⟩ := z
  simp only at he hsm
  by_cases h0 : er = 0
  · subst h0
    by_cases hv : v ≤ most
    · have HB : Hid (pNum most (b, bad) = (v, (b.drop k, bad || !true))) := by show _ = _; rw [HP.out]; simp [hv]
      have hvi : (v : Int) ≤ (most : Int) := by omega
      clear HP hv he
      go_enter Tryz.func66, Tryz.ntmps66
      go_wp2_with first
        | (go_at_call 107; refine (HG.out _ m).mono ?_; rintro e w1 ⟨rfl, m1⟩)
        | (go_at_call 108; refine (HT.out true _ m1).mono ?_; rintro e w2 ⟨rfl, h5⟩)
      go_ret
      exact ⟨by rw [HB.out]; rfl, by rw [HB.out]; exact h5⟩
    · have HB : Hid (pNum most (b, bad) = (v, (b.drop k, bad || !false))) := by show _ = _; rw [HP.out]; simp [hv]
      have hvi : ¬ (v : Int) ≤ (most : Int) := by omega
      have hvd : decide (v ≤ most) = false := decide_eq_false hv
      clear HP hv he
      go_enter Tryz.func66, Tryz.ntmps66
      go_wp2_with first
        | (go_at_call 107; refine (HG.out _ m).mono ?_; rintro e w1 ⟨rfl, m1⟩)
        | (go_at_call 108; refine (HT.out false _ m1).mono ?_; rintro e w2 ⟨rfl, h5⟩)
      go_ret
      exact ⟨by rw [HB.out]; rfl, by rw [HB.out]; exact h5⟩
  · have HB : Hid (pNum most (b, bad) = (v, (b.drop k, bad || !false))) := by show _ = _; rw [HP.out]; simp [h0]
    have h0i : ((er : Int) == 0) = false := beq_eq_false_iff_ne.2 (by omega)
    clear HP h0 he
    go_enter Tryz.func66, Tryz.ntmps66
    go_wp2_with first
      | (go_at_call 107; refine (HG.out _ m).mono ?_; rintro e w1 ⟨rfl, m1⟩)
      | (go_at_call 108; refine (HT.out false _ m1).mono ?_; rintro e w2 ⟨rfl, h5⟩)
    go_ret
    exact ⟨by rw [HB.out]; rfl, by rw [HB.out]; exact h5⟩
set_option maxHeartbeats 2000000 in
theorem enum_spec (g : Nat) (s : RdS) (G F : Asn) (hs : Sub F G) (w w0 : World) (h : Rd g s G F w0 w) :
    Calls Tryz.prog 65 #[ptr g] w fun e w' => e = .returned (.int .u32 ((pU32 s).1 : Int)) ∧ Rd g (pU32 s).2 G F w0 w' := by
  have HN := Lib.hid (enumber_spec g 4294967295 m32 m32_int s G F hs w w0 h)
  have HU : Hid (pU32 s = ((pNum m32 s).1 % 4294967296, (pNum m32 s).2)) := rfl
  generalize pNum m32 s = z at *
  obtain ⟨v, s2⟩ := z
  go_enter Tryz.func65, Tryz.ntmps65
  go_wp2_with (go_at_call 66; refine HN.out.mono ?_; rintro e w1 ⟨rfl, h1⟩)
  go_ret
  exact ⟨by rw [HU.out]; simp, by rw [HU.out]; exact h1⟩
set_option maxHeartbeats 4000000 in
theorem etext_spec (g : Nat) (s : RdS) (G F : Asn) (hs : Sub F G) (w w0 : World) (h : Rd g s G F w0 w) :
    Calls Tryz.prog 106 #[ptr g] w fun e w' => e = .returned (.string ⟨(pText s).1.toArray⟩) ∧ Rd g (pText s).2 G F w0 w' := by
  obtain ⟨b, bad⟩ := s
  obtain ⟨A, n, c, h1, h2, h3, h4, m⟩ := h
  simp only at h1 h4 m
  have HG := Lib.hid (fun (u : World) (mu : Mod u w0 (Go.Sl.blk g (.cells #[.slice A n c, .bool bad] 113 (0, 0)) * F)) => iGetText_spec A n c b u w0 _ mu (reads_lift (inferInstance : Sub _ F) (reads_lift hs h4)) h3 h2)
  have hk := getT_len b
  have HT := Lib.hid (fun (ok : Bool) (u : World) (mu : Mod u w0 (Go.Sl.blk g (.cells #[.slice A n c, .bool bad] 113 (0, 0)) * F)) => etook_spec g b bad ok (getT b).2.1 hk G F u w0 ⟨A, n, c, h1, h2, h3, h4, mu⟩)
  have HP : Hid (pText (b, bad) = ((getT b).1, (b.drop (getT b).2.1, bad || !(decide ((getT b).2.2 = 0))))) := rfl
  clear h1 h4 hk
  generalize getT b = z at *
  obtain ⟨v, k, er⟩ := z
  by_cases h0 : er = 0
  · subst h0
    have HB : Hid (pText (b, bad) = (v, (b.drop k, bad || !true))) := by show _ = _; rw [HP.out]; rfl
    clear HP
    go_enter Tryz.func106, Tryz.ntmps106
    go_wp2_with first
      | (go_at_call 141; refine (HG.out _ m).mono ?_; rintro e w1 ⟨rfl, m1⟩)
      | (go_at_call 108; refine (HT.out true _ m1).mono ?_; rintro e w2 ⟨rfl, h5⟩)
    go_ret
    exact ⟨by rw [HB.out]; rfl, by rw [HB.out]; exact h5⟩
  · have HB : Hid (pText (b, bad) = (v, (b.drop k, bad || !false))) := by show _ = _; rw [HP.out]; simp [h0]
    have h0i : ((er : Int) == 0) = false := beq_eq_false_iff_ne.2 (by omega)
    clear HP h0
    go_enter Tryz.func106, Tryz.ntmps106
    go_wp2_with first
      | (go_at_call 141; refine (HG.out _ m).mono ?_; rintro e w1 ⟨rfl, m1⟩)
      | (go_at_call 108; refine (HT.out false _ m1).mono ?_; rintro e w2 ⟨rfl, h5⟩)
    go_ret
    exact ⟨by rw [HB.out]; rfl, by rw [HB.out]; exact h5⟩
set_option maxRecDepth 100000 in
theorem und_File : ∃ fs, Tryz.prog.underlying 44 = some (.struct fs) := ⟨_, Tryz.underlying44⟩
set_option maxRecDepth 100000 in
theorem size_File : (Tryz.prog.info? 44).map (·.size) = some 4 := by kernel_rfl
theorem sub_skip {X F G : Asn} (h : Sub F G) : Sub (X * F) G := Sub.right X F G (s := h)
set_option maxRecDepth 4000 in
set_option maxHeartbeats 8000000 in
theorem efile_spec (g : Nat) (s : RdS) (G F : Asn) (hs : Sub F G) (w w0 : World) (h : Rd g s G F w0 w) :
    Calls Tryz.prog 63 #[ptr g] w fun e w' => e = .returned (.agg #[.int .u32 ((pFile s).1.num : Int), .int .i64 (pFile s).1.level, .string (pFile s).1.least, .string (pFile s).1.most]) ∧ Rd g (pFile s).2 G F w0 w' := by
  have h1 : Rd g s G (Go.Sl.blk w.heap.size (.cells #[.int .u32 0, .int .i64 0, .string ⟨#[]⟩, .string ⟨#[]⟩] 44 (0, 0)) * F) w0 (w.alloc (.cells #[.int .u32 0, .int .i64 0, .string ⟨#[]⟩, .string ⟨#[]⟩] 44)) :=
    h.turn fun X m => Mod.to (m := Mod.alloc (m := m) _) (by ac_rfl)
  obtain ⟨v1, s1, hp1⟩ : ∃ v1 s1, pU32 s = (v1, s1) := ⟨_, _, rfl⟩
  obtain ⟨v2, s2, hp2⟩ : ∃ v2 s2, pNum 4 s1 = (v2, s2) := ⟨_, _, rfl⟩
  obtain ⟨v3, s3, hp3⟩ : ∃ v3 s3, pText s2 = (v3, s3) := ⟨_, _, rfl⟩
  obtain ⟨v4, s4, hp4⟩ : ∃ v4 s4, pText s3 = (v4, s4) := ⟨_, _, rfl⟩
  have hpf : pFile s = (⟨v1, wrap64 (v2 : Int), ⟨v3.toArray⟩, ⟨v4.toArray⟩⟩, s4) := by unfold pFile; simp only [hp1, hp2, hp3, hp4]
  rw [hpf]
  have H1 := Lib.hid (fun (u : World) (FF : Asn) (hh : Sub FF G) (hu : Rd g s G FF w0 u) => enum_spec g s G FF hh u w0 hu)
  have H2 := Lib.hid (fun (u : World) (FF : Asn) (hh : Sub FF G) (hu : Rd g s1 G FF w0 u) => enumber_spec g 4 4 rfl s1 G FF hh u w0 hu)
  have H3 := Lib.hid (fun (u : World) (FF : Asn) (hh : Sub FF G) (hu : Rd g s2 G FF w0 u) => etext_spec g s2 G FF hh u w0 hu)
  have H4 := Lib.hid (fun (u : World) (FF : Asn) (hh : Sub FF G) (hu : Rd g s3 G FF w0 u) => etext_spec g s3 G FF hh u w0 hu)
  rw [hp1] at H1
  rw [hp2] at H2
  rw [hp3] at H3
  rw [hp4] at H4
  obtain ⟨gf, hgf⟩ : ∃ gf, w.heap.size = gf := ⟨_, rfl⟩
  rw [hgf] at h1
  have K1 := Lib.hid h1
  have HS := Lib.hid hs
  clear h h1 hpf hp1 hp2 hp3 hp4 hs
  go_enter Tryz.func63, Tryz.ntmps63
  go_wp2_with first
    | (go_at_call 65; refine (H1.out _ _ (sub_skip HS.out) K1.out).mono ?_; rintro e w1 ⟨rfl, h2⟩; have K2 := Lib.hid h2; clear h2)
    | (go_at_call 66; refine (H2.out _ _ (sub_skip HS.out) K2.out).mono ?_; rintro e w2 ⟨rfl, h3⟩; have K3 := Lib.hid h3; have m3 := h3.rest; clear h3; refine Hid.out ?_)
  refine Lib.hid ?_
  have Hgf := Lib.hid hgf
  clear hgf
  go_wp2_with first
    | (go_at_call 106; refine (H4.out _ _ (sub_skip HS.out) K4.out).mono ?_; rintro e w5 ⟨rfl, h5⟩; have K5 := Lib.hid h5; have m5 := h5.rest; clear h5 m3; refine Hid.out ?_)
    | (go_at_call 106; refine (H3.out _ (Go.Sl.blk gf (.cells #[.int .u32 (v1 : Int), .int .i64 (wrap64 (v2 : Int)), .string ⟨#[]⟩, .string ⟨#[]⟩] 44 (0, 0)) * F) (sub_skip HS.out) (K3.out.turn fun X m => mod_inst (by simp only [List.setIfInBounds_toArray, List.set_cons_zero, List.set_cons_succ, emp_sep]; ac_rfl))).mono ?_; rintro e w4 ⟨rfl, h4⟩; have K4 := Lib.hid h4; clear h4)
  refine Lib.hid ?_
  go_wp2_with fail
  have K6 := K5.out.turn (w1 := (((((w5.setCell ⟨gf, 2, none⟩ (.string ⟨v3.toArray⟩)).setCell ⟨gf, 3, none⟩ (.string ⟨v4.toArray⟩)).setCell ⟨gf, 0, none⟩ (.int .u32 (v1 : Int))).setCell ⟨gf, 1, none⟩ (.int .i64 (wrap64 (v2 : Int)))).setCell ⟨gf, 2, none⟩ (.string ⟨v3.toArray⟩)).setCell ⟨gf, 3, none⟩ (.string ⟨v4.toArray⟩)) (F' := Go.Sl.blk gf (.cells #[.int .u32 (v1 : Int), .int .i64 (wrap64 (v2 : Int)), .string ⟨v3.toArray⟩, .string ⟨v4.toArray⟩] 44 (0, 0)) * F) fun X m => mod_inst (by simp only [List.setIfInBounds_toArray, List.set_cons_zero, List.set_cons_succ, emp_sep]; ac_rfl)
  obtain ⟨fs, hu⟩ := und_File
  refine bodyPost_ret (results_cell_row rfl _ _ gf 44 #[.int .u32 (v1 : Int), .int .i64 (wrap64 (v2 : Int)), .string ⟨v3.toArray⟩, .string ⟨v4.toArray⟩] (0, 0) _ rfl (Mod.heap (m := K6.rest)) hu rfl (by rw [size_File]; rfl)) rfl ?_
  exact ⟨rfl, K6.turn fun X m => Mod.drop (A := Go.Sl.blk gf (.cells #[.int .u32 (v1 : Int), .int .i64 (wrap64 (v2 : Int)), .string ⟨v3.toArray⟩, .string ⟨v4.toArray⟩] 44 (0, 0))) (m := Mod.to (m := m) (by ac_rfl))⟩
end Go.Proofs.YtmhlebpchllpbaaGreatDoor
namespace Go.Sl
open Go
/-- A list: so many of it, as long as nothing was wrong. -/
def pMany {α : Type} (one : RdS → α × RdS) : Nat → RdS → List α × RdS
  | 0, s => ([], s)
  | n + 1, s => if s.2 then ([], s) else ((one s).1 :: (pMany one n (one s).2).1, (pMany one n (one s).2).2)
theorem pMany_bad {α : Type} (one : RdS → α × RdS) (n : Nat) {s : RdS} (h : s.2 = true) : pMany one n s = ([], s) := by
  cases n with
  | zero => rfl
  | succ n => simp [pMany, h]
theorem pMany_good {α : Type} (one : RdS → α × RdS) (n : Nat) {s : RdS} (h : s.2 = false) : pMany one (n + 1) s = ((one s).1 :: (pMany one n (one s).2).1, (pMany one n (one s).2).2) := by simp [pMany, h]
def m64 : Nat := 18446744073709551615
theorem m64_int : (18446744073709551615 : Int) = (m64 : Int) := rfl
def pList {α : Type} (one : RdS → α × RdS) (s : RdS) : List α × RdS := pMany one (pNum m64 s).1 (pNum m64 s).2
theorem pNum_used {most : Nat} {s : RdS} (h : (pNum most s).2.2 = false) : s.2 = false ∧ (pNum most s).2.1.length + 1 ≤ s.1.length := by
  unfold pNum at h ⊢
  simp only [Bool.or_eq_false_iff, Bool.not_eq_false', Bool.and_eq_true, decide_eq_true_eq] at h
  have h1 := getV_pos h.2.1
  have h2 := getV_len s.1
  refine ⟨h.1, ?_⟩
  show (s.1.drop (getV s.1).2.1).length + 1 ≤ _
  rw [List.length_drop]
  omega
theorem pText_used {s : RdS} (h : (pText s).2.2 = false) : s.2 = false ∧ (pText s).2.1.length ≤ s.1.length := by
  unfold pText at h ⊢
  simp only [Bool.or_eq_false_iff] at h
  refine ⟨h.1, ?_⟩
  show (s.1.drop (getT s.1).2.1).length ≤ _
  rw [List.length_drop]
  omega
theorem pU32_used {s : RdS} (h : (pU32 s).2.2 = false) : (pU32 s).2.1.length + 1 ≤ s.1.length := (pNum_used (most := m32) h).2
theorem pFile_used {s : RdS} (h : (pFile s).2.2 = false) : (pFile s).2.1.length + 1 ≤ s.1.length := by
  unfold pFile at h ⊢
  simp only at h ⊢
  obtain ⟨h1, h2⟩ := pText_used h
  obtain ⟨h3, h4⟩ := pText_used h1
  obtain ⟨h5, h6⟩ := pNum_used h3
  have h7 := pU32_used h5
  omega
theorem pNum_le (most : Nat) (s : RdS) : (pNum most s).2.1.length ≤ s.1.length := by
  show (s.1.drop (getV s.1).2.1).length ≤ _
  rw [List.length_drop]; omega
end Go.Sl
namespace Go.Proofs.YtmhlebpchllpbaaGreatDoor
open Go.RowKit Go.Sl
attribute [local go_sem] cell_of cellAt_of frozen_of zero_names
instance rowN_files : RowN Tryz.prog 32 44 4 48 := ⟨Tryz.underlying32, by kernel_rfl⟩
instance rowT_u32s : RowT Tryz.prog 35 36 4 := ⟨Tryz.underlying35, by kernel_rfl⟩
theorem file_one (f : FileV) : ∀ u ∈ f.cells, u.oneCell' = true := by
  intro u hu
  simp only [FileV.cells, List.mem_cons, List.not_mem_nil, or_false] at hu
  rcases hu with rfl | rfl | rfl | rfl <;> rfl
set_option maxRecDepth 4000 in
set_option maxHeartbeats 8000000 in
theorem eseveralF_spec (g : Nat) (s : RdS) (G F : Asn) (hs : Sub F G) (w w0 : World) (h : Rd g s G F w0 w) :
    Calls Tryz.prog 62 #[ptr g, .func (.func 63) #[ptr g] #[]] w fun e w' => ∃ A' c', e = .returned (.slice A' (pList pFile s).1.length c') ∧ (pList pFile s).1.length ≤ s.1.length + 1 ∧ Rd g (pList pFile s).2 G (rowA 44 4 (.slice A' (pList pFile s).1.length c') (pList pFile s).1.length (List.flatMap FileV.cells (pList pFile s).1) * F) w0 w' := by
  have hL : s.1.length ≤ 1000000000 := by obtain ⟨_, _, _, e1, _, e2, _⟩ := h; omega
  obtain ⟨L, hLe⟩ : ∃ L, s.1.length = L := ⟨_, rfl⟩
  have HN := Lib.hid (enumber_spec g 18446744073709551615 m64 m64_int s G F hs w w0 h)
  have hle := pNum_le m64 s
  have HP : Hid (pList pFile s = pMany pFile (pNum m64 s).1 (pNum m64 s).2) := rfl
  have hvb : (pNum m64 s).1 < 18446744073709551616 := getV_small s.1
  rw [hLe] at hle hL ⊢
  generalize pNum m64 s = z at *
  obtain ⟨v, s1⟩ := z
  simp only at hle HP hvb
  have HS := Lib.hid hs
  obtain ⟨P, hPe⟩ : ∃ P, pList pFile s = P := ⟨_, rfl⟩
  rw [hPe] at HP ⊢
  clear hPe hLe hs h
  go_enter Tryz.func62, Tryz.ntmps62
  go_wp2_with (go_at_call 66; refine HN.out.mono ?_; rintro e w1 ⟨rfl, h1⟩; refine Hid.out ?_)
  obtain ⟨v0, hv0⟩ : ∃ v0, v0 = v := ⟨_, rfl⟩
  have H1 := Lib.hid h1
  clear h1 HN
  refine Lib.hid ?_
  go_wp2_with fail
  go_loopg [4, 5] v (fun gk vl vn wr => ∃ (q : Nat) (st : RdS) (acc : List FileV) (na : Nat) (Ar : Option Addr) (cr : Nat), gk = q ∧ q ≤ v ∧ vn = .int .u64 (q : Int) ∧ vl = .slice Ar na cr ∧ Hid (acc.length = na) ∧ Hid (P = (acc ++ (pMany pFile q st).1, (pMany pFile q st).2)) ∧ Hid ((st.2 = false → na + st.1.length ≤ L) ∧ (st.2 = true → na ≤ L + 1)) ∧ na ≤ L + 1 ∧ Hid (Rd g st G (rowA 44 4 (.slice Ar na cr) na (List.flatMap FileV.cells acc) * F) w0 wr))
  case atStart =>
    refine ⟨v, s1, [], 0, none, 0, rfl, Nat.le_refl _, rfl, rfl, rfl, by show _ = _; rw [HP.out]; rfl, ⟨fun _ => by omega, fun _ => by omega⟩, by omega, H1.out.turn fun X m => Mod.to (m := row_none_n (e := 44) (size := 4) m) (by show _ = X * (rowA 44 4 (.slice none 0 0) 0 [] * F); ac_rfl)⟩
  case round =>
    obtain ⟨q, st, acc, na, Ar, cr, hgk, hqv, rfl, rfl, Hna, HPq, Hb, hna, HR⟩ := hrel
    obtain ⟨b, bad⟩ := st
    by_cases hq : q = 0
    · subst hq
      have HE : Hid (P = (acc, (b, bad))) := by show _ = _; rw [HPq.out]; simp [pMany]
      have mR := HR.out.rest
      go_wp2_with fail
      go_ret
      exact ⟨Ar, cr, by rw [HE.out, Hna.out]; rfl, by rw [HE.out]; show acc.length ≤ _; rw [Hna.out]; exact hna, by rw [HE.out, Hna.out]; exact HR.out⟩
    · obtain ⟨q1, rfl⟩ : ∃ q1, q = q1 + 1 := ⟨q - 1, by omega⟩
      have hqi : (0 : Int) < ((q1 + 1 : Nat) : Int) := by omega
      have hqn : 0 < q1 + 1 := by omega
      obtain ⟨Ax, nx, cx, x1, x2, x3, x4, mx⟩ := HR.out
      simp only at mx
      cases bad with
      | true =>
        have HE : Hid (P = (acc, (b, true))) := by show _ = _; rw [HPq.out, pMany_bad _ _ rfl, List.append_nil]
        clear x1 x2 x3 x4
        go_wp2_with fail
        go_ret
        exact ⟨Ar, cr, by rw [HE.out, Hna.out]; rfl, by rw [HE.out]; show acc.length ≤ _; rw [Hna.out]; exact hna, by rw [HE.out, Hna.out]; exact HR.out⟩
      | false =>
        have HE : Hid (P = (acc ++ [(pFile (b, false)).1] ++ (pMany pFile q1 (pFile (b, false)).2).1, (pMany pFile q1 (pFile (b, false)).2).2)) := by show _ = _; rw [HPq.out, pMany_good _ _ rfl, List.append_assoc]; rfl
        have hu := fun h => pFile_used (s := (b, false)) h
        have hb1 := Hb.out.1 rfl
        simp only at hu hb1
        have HO := Lib.hid (efile_spec g (b, false) G (rowA 44 4 (.slice Ar na cr) na (List.flatMap FileV.cells acc) * F) (sub_skip HS.out) wr w0 HR.out)
        generalize pFile (b, false) = y at *
        obtain ⟨f, s2⟩ := y
        simp only at hu HE HO
        have Hb2 : Hid ((s2.2 = false → na + 1 + s2.1.length ≤ L) ∧ (s2.2 = true → na + 1 ≤ L + 1)) := ⟨fun h => by have := hu h; omega, fun _ => by omega⟩
        have hna1 : na ≤ L := by omega
        clear x1 x2 x3 x4 hu hb1 HR HPq Hb
        go_wp2_with first
          | (go_at_call 63; refine HO.out.mono ?_; rintro e w3 ⟨rfl, h3⟩; have H3 := Lib.hid h3; clear h3 mx; refine Hid.out ?_)
        obtain ⟨Ay, ny, cy, y1, y2, y3, y4, my⟩ := H3.out
        refine Lib.hid ?_
        go_wp2_with first
          | (refine wpList_build_one (t := 32) (e := 44) (size := 4) (bytes := 48) (cs := #[.int .u32 (f.num : Int), .int .i64 f.level, .string f.least, .string f.most]) rfl rfl rfl rfl (by decide) ?_)
          | (at_builtin; refine wpList_mod (w0 := w0) ?_; intro mw; have mq := Mod.pull (m := mw) (rowA 44 4 (.slice Ar na cr) na (acc.flatMap FileV.cells)); refine wpList_append_n (t := 32) (size := 4) (v := .slice Ar na cr) (n := na) (xs := acc.flatMap FileV.cells) (k := 1) (c := 1) (A := ⟨w3.heap.size, 0, none⟩) (news := f.cells) rfl rfl mq rfl rfl (reads_blk rfl rfl) (by decide) (file_one f) (by unfold maxLen; omega) (by omega) ?_; clear mw mq; intro A5 c5 w5 m5)
        have m6 := m5
        rw [show acc.flatMap FileV.cells ++ f.cells = (acc ++ [f]).flatMap FileV.cells by simp] at m6
        have e1 : (q1 + 1 : Nat) = q1 + 1 := rfl
        go_roundg q1
        case measure => omega
        case rel => exact ⟨q1, s2, acc ++ [f], na + 1, A5, c5, rfl, by omega, by go_num, rfl, by show _ = _; rw [List.length_append, Hna.out]; rfl, HE, Hb2, by omega, ⟨Ay, ny, cy, y1, y2, y3, y4, Mod.keep m6⟩⟩
set_option maxRecDepth 4000 in
set_option maxHeartbeats 8000000 in
theorem eseveralN_spec (g : Nat) (s : RdS) (G F : Asn) (hs : Sub F G) (w w0 : World) (h : Rd g s G F w0 w) :
    Calls Tryz.prog 64 #[ptr g, .func (.func 65) #[ptr g] #[]] w fun e w' => ∃ A' c', e = .returned (.slice A' (pList pU32 s).1.length c') ∧ (pList pU32 s).1.length ≤ s.1.length + 1 ∧ Rd g (pList pU32 s).2 G (rowA 36 1 (.slice A' (pList pU32 s).1.length c') (pList pU32 s).1.length (List.map (fun v : Nat => Value.int .u32 (v : Int)) (pList pU32 s).1) * F) w0 w' := by
  have hL : s.1.length ≤ 1000000000 := by obtain ⟨_, _, _, e1, _, e2, _⟩ := h; omega
  obtain ⟨L, hLe⟩ : ∃ L, s.1.length = L := ⟨_, rfl⟩
  have HN := Lib.hid (enumber_spec g 18446744073709551615 m64 m64_int s G F hs w w0 h)
  have hle := pNum_le m64 s
  have HP : Hid (pList pU32 s = pMany pU32 (pNum m64 s).1 (pNum m64 s).2) := rfl
  have hvb : (pNum m64 s).1 < 18446744073709551616 := getV_small s.1
  rw [hLe] at hle hL ⊢
  generalize pNum m64 s = z at *
  obtain ⟨v, s1⟩ := z
  simp only at hle HP hvb
  have HS := Lib.hid hs
  obtain ⟨P, hPe⟩ : ∃ P, pList pU32 s = P := ⟨_, rfl⟩
  rw [hPe] at HP ⊢
  clear hPe hLe hs h
  go_enter Tryz.func64, Tryz.ntmps64
  go_wp2_with (go_at_call 66; refine HN.out.mono ?_; rintro e w1 ⟨rfl, h1⟩; refine Hid.out ?_)
  obtain ⟨v0, hv0⟩ : ∃ v0, v0 = v := ⟨_, rfl⟩
  have H1 := Lib.hid h1
  clear h1 HN
  refine Lib.hid ?_
  go_wp2_with fail
  go_loopg [4, 5] v (fun gk vl vn wr => ∃ (q : Nat) (st : RdS) (acc : List Nat) (na : Nat) (Ar : Option Addr) (cr : Nat), gk = q ∧ q ≤ v ∧ vn = .int .u64 (q : Int) ∧ vl = .slice Ar na cr ∧ Hid (acc.length = na) ∧ Hid (P = (acc ++ (pMany pU32 q st).1, (pMany pU32 q st).2)) ∧ Hid ((st.2 = false → na + st.1.length ≤ L) ∧ (st.2 = true → na ≤ L + 1)) ∧ na ≤ L + 1 ∧ Hid (Rd g st G (rowA 36 1 (.slice Ar na cr) na (List.map (fun v : Nat => Value.int .u32 (v : Int)) acc) * F) w0 wr))
  case atStart =>
    refine ⟨v, s1, [], 0, none, 0, rfl, Nat.le_refl _, rfl, rfl, rfl, by show _ = _; rw [HP.out]; rfl, ⟨fun _ => by omega, fun _ => by omega⟩, by omega, H1.out.turn fun X m => Mod.to (m := row_none_n (e := 36) (size := 1) m) (by show _ = X * (rowA 36 1 (.slice none 0 0) 0 [] * F); ac_rfl)⟩
  case round =>
    obtain ⟨q, st, acc, na, Ar, cr, hgk, hqv, rfl, rfl, Hna, HPq, Hb, hna, HR⟩ := hrel
    obtain ⟨b, bad⟩ := st
    by_cases hq : q = 0
    · subst hq
      have HE : Hid (P = (acc, (b, bad))) := by show _ = _; rw [HPq.out]; simp [pMany]
      have mR := HR.out.rest
      go_wp2_with fail
      go_ret
      exact ⟨Ar, cr, by rw [HE.out, Hna.out]; rfl, by rw [HE.out]; show acc.length ≤ _; rw [Hna.out]; exact hna, by rw [HE.out, Hna.out]; exact HR.out⟩
    · obtain ⟨q1, rfl⟩ : ∃ q1, q = q1 + 1 := ⟨q - 1, by omega⟩
      have hqi : (0 : Int) < ((q1 + 1 : Nat) : Int) := by omega
      have hqn : 0 < q1 + 1 := by omega
      obtain ⟨Ax, nx, cx, x1, x2, x3, x4, mx⟩ := HR.out
      simp only at mx
      cases bad with
      | true =>
        have HE : Hid (P = (acc, (b, true))) := by show _ = _; rw [HPq.out, pMany_bad _ _ rfl, List.append_nil]
        clear x1 x2 x3 x4
        go_wp2_with fail
        go_ret
        exact ⟨Ar, cr, by rw [HE.out, Hna.out]; rfl, by rw [HE.out]; show acc.length ≤ _; rw [Hna.out]; exact hna, by rw [HE.out, Hna.out]; exact HR.out⟩
      | false =>
        have HE : Hid (P = (acc ++ [(pU32 (b, false)).1] ++ (pMany pU32 q1 (pU32 (b, false)).2).1, (pMany pU32 q1 (pU32 (b, false)).2).2)) := by show _ = _; rw [HPq.out, pMany_good _ _ rfl, List.append_assoc]; rfl
        have hu := fun h => pU32_used (s := (b, false)) h
        have hb1 := Hb.out.1 rfl
        simp only at hu hb1
        have HO := Lib.hid (enum_spec g (b, false) G (rowA 36 1 (.slice Ar na cr) na (List.map (fun v : Nat => Value.int .u32 (v : Int)) acc) * F) (sub_skip HS.out) wr w0 HR.out)
        generalize pU32 (b, false) = y at *
        obtain ⟨f, s2⟩ := y
        simp only at hu HE HO
        have Hb2 : Hid ((s2.2 = false → na + 1 + s2.1.length ≤ L) ∧ (s2.2 = true → na + 1 ≤ L + 1)) := ⟨fun h => by have := hu h; omega, fun _ => by omega⟩
        have hna1 : na ≤ L := by omega
        clear x1 x2 x3 x4 hu hb1 HR HPq Hb
        go_wp2_with first
          | (go_at_call 65; refine HO.out.mono ?_; rintro e w3 ⟨rfl, h3⟩; have H3 := Lib.hid h3; clear h3 mx; refine Hid.out ?_)
        obtain ⟨Ay, ny, cy, y1, y2, y3, y4, my⟩ := H3.out
        refine Lib.hid ?_
        go_wp2_with first
          | (at_builtin; refine wpList_append (v := .slice Ar na cr) (A := some ⟨w3.heap.size, 0, none⟩) (k := 1) (c := 1) (news := [.int .u32 (f : Int)]) (r := reads_blk rfl rfl) rfl rfl inferInstance rfl rfl (by simp [Value.oneCell']) (by unfold maxLen; omega) (by omega) ?_; intro A5 c5 w5 m5)
        have m6 := m5
        rw [show (acc.map fun v : Nat => Value.int .u32 (v : Int)) ++ [.int .u32 (f : Int)] = (acc ++ [f]).map fun v : Nat => Value.int .u32 (v : Int) by simp] at m6
        have e1 : (q1 + 1 : Nat) = q1 + 1 := rfl
        go_roundg q1
        case measure => omega
        case rel => exact ⟨q1, s2, acc ++ [f], na + 1, A5, c5, rfl, by omega, by go_num, rfl, by show _ = _; rw [List.length_append, Hna.out]; rfl, HE, Hb2, by omega, ⟨Ay, ny, cy, y1, y2, y3, y4, Mod.keep m6⟩⟩
end Go.Proofs.YtmhlebpchllpbaaGreatDoor
namespace Go.Sl
open Go
/-- What is known of a number's bytes. -/
theorem vint_shape : ∀ (n : Nat), ∃ (init : List UInt8) (x : UInt8), vint n = init ++ [x] ∧ (∀ c ∈ init, ¬ c.toNat < 128) ∧ x.toNat < 128 ∧ x.toNat * 128 ^ init.length ≤ n ∧ (init ≠ [] → x.toNat ≠ 0) ∧ joinV (vint n) = n := by
  intro n
  induction n using Nat.strongRecOn with
  | ind n ih =>
    by_cases h : n < 128
    · have e : (UInt8.ofNat n).toNat = n := by rw [UInt8.toNat_ofNat']; omega
      refine ⟨[], UInt8.ofNat n, vint_small h, (fun c hc => by cases hc), by omega, by simp [e], by simp, ?_⟩
      rw [vint_small h]
      simp only [joinV, e]; omega
    · obtain ⟨init, x, h1, h2, h3, h4, h5, h6⟩ := ih (n / 128) (by omega)
      have e : (UInt8.ofNat (n % 128 + 128)).toNat = n % 128 + 128 := by rw [UInt8.toNat_ofNat']; omega
      refine ⟨UInt8.ofNat (n % 128 + 128) :: init, x, by rw [vint_big h, h1]; rfl, ?_, h3, ?_, ?_, ?_⟩
      · intro c hc
        rcases List.mem_cons.1 hc with rfl | hc
        · rw [e]; omega
        · exact h2 c hc
      · rw [List.length_cons, Nat.pow_succ, ← Nat.mul_assoc]
        omega
      · intro _
        by_cases hi : init = []
        · subst hi
          rw [h1] at h6
          simp only [List.nil_append, joinV] at h6
          omega
        · exact h5 hi
      · rw [vint_big h]
        simp only [joinV, e, h6]
        omega
theorem getV_vint {n : Nat} (hn : n < 18446744073709551616) (r : List UInt8) : getV (vint n ++ r) = (n, (vint n).length, 0) := by
  have hlen := vint_ten hn
  obtain ⟨init, x, h1, h2, h3, h4, h5, h6⟩ := vint_shape n
  have hl : (vint n).length = init.length + 1 := by rw [h1]; simp
  have he : endOf (vint n ++ r) = some init.length := by
    unfold endOf
    rw [List.findIdx?_eq_some_iff_getElem]
    have hx : ((vint n ++ r).take 10)[init.length]? = some x := by
      rw [List.getElem?_take, if_pos (by omega), h1, List.append_assoc, List.getElem?_append_right (Nat.le_refl _), Nat.sub_self]; rfl
    obtain ⟨q1, q2⟩ := List.getElem?_eq_some_iff.1 hx
    refine ⟨q1, by rw [q2]; exact decide_eq_true h3, fun j hj => ?_⟩
    have hj2 : ((vint n ++ r).take 10)[j]? = some init[j] := by
      rw [List.getElem?_take, if_pos (by omega), h1, List.append_assoc, List.getElem?_append_left hj]
      exact List.getElem?_eq_getElem hj
    obtain ⟨p1, p2⟩ := List.getElem?_eq_some_iff.1 hj2
    rw [p2]
    simpa using h2 _ (List.getElem_mem hj)
  have hd : (vint n ++ r).getD init.length 0 = x := by
    rw [List.getD_eq_getElem?_getD, h1, List.append_assoc, List.getElem?_append_right (Nat.le_refl _), Nat.sub_self]; rfl
  unfold getV
  rw [he]
  simp only [hd]
  rw [if_neg]
  · rw [← hl, List.take_left, h6]
  · rintro (⟨q1, q2⟩ | ⟨q1, q2⟩)
    · exact h5 (by intro h; rw [h] at q1; simp at q1) q2
    · rw [q1] at h4
      have : 2 * 128 ^ 9 ≤ x.toNat * 128 ^ 9 := Nat.mul_le_mul_right _ (by omega)
      omega
theorem pNum_vint {n most : Nat} (hn : n < 18446744073709551616) (hm : n ≤ most) (r : List UInt8) (bad : Bool) : pNum most (vint n ++ r, bad) = (n, (r, bad)) := by
  unfold pNum
  simp only [getV_vint hn r]
  rw [List.drop_left]
  simp [hm]
theorem pU32_vint {n : Nat} (hn : n < 4294967296) (r : List UInt8) (bad : Bool) : pU32 (vint n ++ r, bad) = (n, (r, bad)) := by
  unfold pU32
  rw [pNum_vint (most := m32) (by omega) (by unfold m32; omega)]
  simp only [Nat.mod_eq_of_lt hn]
theorem getT_textB {s : ByteArray} (hs : s.size ≤ 1000000) (r : List UInt8) : getT (textB s ++ r) = (s.data.toList, (textB s).length, 0) := by
  have e : s.data.toList.length = s.size := by rw [Array.length_toList]; rfl
  have hg : getV (textB s ++ r) = (s.size, (vint s.size).length, 0) := by
    unfold textB
    rw [List.append_assoc, getV_vint (by omega)]
  have hl : (textB s).length = (vint s.size).length + s.size := by unfold textB; rw [List.length_append, e]
  unfold getT
  simp only [hg]
  rw [if_neg (by simp), if_neg (by rw [List.length_append, hl]; omega)]
  refine Prod.ext ?_ (Prod.ext ?_ rfl)
  · show ((textB s ++ r).drop (vint s.size).length).take s.size = _
    unfold textB
    rw [List.append_assoc, List.drop_left, ← e, List.take_left]
  · show (vint s.size).length + s.size = _
    rw [hl]
theorem pText_textB {s : ByteArray} (hs : s.size ≤ 1000000) (r : List UInt8) (bad : Bool) : pText (textB s ++ r, bad) = (s.data.toList, (r, bad)) := by
  unfold pText
  simp only [getT_textB hs r]
  rw [List.drop_left]
  simp
theorem pFile_fileB {f : FileV} (hm : mayF f = true) (hn : f.num < 4294967296) (r : List UInt8) (bad : Bool) : pFile (fileB f ++ r, bad) = (f, (r, bad)) := by
  obtain ⟨num, lv, a, b⟩ := f
  have hm2 := hm
  unfold mayF lvOk keyOk at hm2
  simp only [Bool.and_eq_true, decide_eq_true_eq] at hm2
  obtain ⟨⟨⟨⟨hl0, hl4⟩, _, ha⟩, _, hb⟩, _⟩ := hm2
  have e : fileB ⟨num, lv, a, b⟩ ++ r = vint num ++ (vint lv.toNat ++ (textB a ++ (textB b ++ r))) := by unfold fileB; simp only [List.append_assoc]
  have hw : Go.RowKit.wrap64 ((lv.toNat : Nat) : Int) = lv := by unfold Go.RowKit.wrap64; omega
  unfold pFile
  rw [e]
  simp only [pU32_vint hn, pNum_vint (n := lv.toNat) (most := 4) (by omega) (by omega), pText_textB (s := a) (by omega), pText_textB (s := b) (by omega), hw]
theorem pMany_flat {α : Type} (one : RdS → α × RdS) (G : α → List UInt8) : ∀ (l : List α) (r : List UInt8), (∀ x ∈ l, ∀ r, one (G x ++ r, false) = (x, (r, false))) → pMany one l.length (l.flatMap G ++ r, false) = (l, (r, false))
  | [], r, _ => rfl
  | x :: l, r, h => by
    have h1 := h x (List.mem_cons_self ..)
    rw [List.length_cons, pMany_good _ _ rfl, List.flatMap_cons, List.append_assoc, h1]
    simp only [pMany_flat one G l r fun y hy => h y (List.mem_cons_of_mem _ hy)]
theorem pList_flat {α : Type} (one : RdS → α × RdS) (G : α → List UInt8) (l : List α) (r : List UInt8) (hl : l.length < 18446744073709551616) (h : ∀ x ∈ l, ∀ r, one (G x ++ r, false) = (x, (r, false))) : pList one (vint l.length ++ (l.flatMap G ++ r), false) = (l, (r, false)) := by
  unfold pList
  rw [pNum_vint (most := m64) hl (by unfold m64; omega)]
  exact pMany_flat one G l r h
end Go.Sl
namespace Go.Proofs.YtmhlebpchllpbaaGreatDoor
open Go Go.Sl
/-- An edit that may be, in numbers of their sizes. -/
structure EditOk (x : EditV) : Prop where
  fine : fineF x.added = true
  nums : ∀ f ∈ x.added, f.num < 4294967296
  nums2 : ∀ v ∈ x.removed, v < 4294967296
  lenA : x.added.length < 18446744073709551616
  lenR : x.removed.length < 18446744073709551616
  journal : x.journal < 4294967296
  next : x.next < 4294967296
  seq : x.seq < 18446744073709551616
def pEdit (b : List UInt8) : EditV × RdS :=
  let a := pList pFile (b, false); let r := pList pU32 a.2; let j := pU32 r.2; let x := pU32 j.2; let q := pNum m64 x.2
  (⟨a.1, r.1, j.1, x.1, q.1⟩, q.2)
/-- What an edit's bytes read as. -/
def getE (b : List UInt8) : Option EditV := if (pEdit b).2.2 = true ∨ fineF (pEdit b).1.added = false ∨ editB (pEdit b).1 ≠ b then none else some (pEdit b).1
theorem pEdit_editB {x : EditV} (h : EditOk x) : pEdit (editB x) = (x, ([], false)) := by
  obtain ⟨fa, rm, jn, nx, sq⟩ := x
  obtain ⟨h1, h2, h3, h4, h5, h6, h7, h8⟩ := h
  simp only at h1 h2 h3 h4 h5 h6 h7 h8
  have a1 : ∀ f ∈ fa, mayF f = true := List.all_eq_true.1 h1
  have e1 := pList_flat pFile fileB fa (vint rm.length ++ (rm.flatMap vint ++ (vint jn ++ (vint nx ++ vint sq)))) h4 fun f hf r => pFile_fileB (a1 f hf) (h2 f hf) r false
  have e2 := pList_flat pU32 vint rm (vint jn ++ (vint nx ++ vint sq)) h5 fun v hv r => pU32_vint (h3 v hv) r false
  have e5 : pNum m64 (vint sq, false) = (sq, ([], false)) := by
    have := pNum_vint (most := m64) h8 (by unfold m64; omega) [] false
    rwa [List.append_nil] at this
  unfold pEdit editB
  simp only
  rw [e1]
  simp only
  rw [e2]
  simp only
  rw [pU32_vint h6]
  simp only
  rw [pU32_vint h7]
  simp only
  rw [e5]
theorem getE_editB {x : EditV} (h : EditOk x) : getE (editB x) = some x := by
  unfold getE
  rw [pEdit_editB h]
  simp [h.fine]
theorem getE_some {b : List UInt8} {x : EditV} (h : getE b = some x) : editB x = b ∧ fineF x.added = true := by
  unfold getE at h
  split at h
  · cases h
  · rename_i hc
    injection h with h
    subst h
    simp only [not_or] at hc
    exact ⟨by simpa using hc.2.2, by simpa using hc.2.1⟩
theorem pMany_all {α : Type} {one : RdS → α × RdS} {P : α → Prop} (h : ∀ s, P (one s).1) : ∀ (n : Nat) (s : RdS), ∀ x ∈ (pMany one n s).1, P x
  | 0, s, x, hx => by cases hx
  | n + 1, s, x, hx => by
    unfold pMany at hx
    split at hx
    · cases hx
    · rcases List.mem_cons.1 hx with rfl | hx
      · exact h s
      · exact pMany_all h n _ x hx
theorem pText_le (s : RdS) : (pText s).2.1.length ≤ s.1.length := by
  show (s.1.drop (getT s.1).2.1).length ≤ _
  rw [List.length_drop]; omega
theorem pFile_le (s : RdS) : (pFile s).2.1.length ≤ s.1.length := by
  unfold pFile
  simp only
  exact Nat.le_trans (pText_le _) (Nat.le_trans (pText_le _) (Nat.le_trans (pNum_le _ _) (pNum_le _ _)))
theorem pMany_le {α : Type} {one : RdS → α × RdS} (h : ∀ s, (one s).2.1.length ≤ s.1.length) : ∀ (n : Nat) (s : RdS), (pMany one n s).2.1.length ≤ s.1.length
  | 0, s => Nat.le_refl _
  | n + 1, s => by
    unfold pMany
    split
    · exact Nat.le_refl _
    · exact Nat.le_trans (pMany_le h n _) (h s)
theorem pList_le {α : Type} {one : RdS → α × RdS} (h : ∀ s, (one s).2.1.length ≤ s.1.length) (s : RdS) : (pList one s).2.1.length ≤ s.1.length := Nat.le_trans (pMany_le h _ _) (pNum_le _ _)
theorem pU32_lt (s : RdS) : (pU32 s).1 < 4294967296 := Nat.mod_lt _ (by omega)
theorem pFile_num (s : RdS) : (pFile s).1.num < 4294967296 := pU32_lt s
theorem pNum_lt (most : Nat) (s : RdS) : (pNum most s).1 < 18446744073709551616 := getV_small s.1
theorem pEdit_small (b : List UInt8) : (∀ f ∈ (pEdit b).1.added, f.num < 4294967296) ∧ (∀ v ∈ (pEdit b).1.removed, v < 4294967296) ∧ (pEdit b).1.journal < 4294967296 ∧ (pEdit b).1.next < 4294967296 ∧ (pEdit b).1.seq < 18446744073709551616 := by
  unfold pEdit
  simp only
  refine ⟨?_, ?_, pU32_lt _, pU32_lt _, pNum_lt _ _⟩
  · unfold pList
    exact pMany_all (P := fun f : FileV => f.num < 4294967296) pFile_num _ _
  · unfold pList
    exact pMany_all (P := fun v : Nat => v < 4294967296) pU32_lt _ _
end Go.Proofs.YtmhlebpchllpbaaGreatDoor
namespace Go.Proofs.YtmhlebpchllpbaaGreatDoor
open Go.RowKit Go.Sl
attribute [local go_sem] cell_of cellAt_of frozen_of zero_names conv_bs
set_option maxHeartbeats 2000000 in
theorem bEqual_spec (A B : Option Addr) (n k c d : Nat) (xs ys : List UInt8) (w w0 : World) (S : Asn) (m : Mod w w0 S) (r1 : Reads S A n (u8s xs)) (r2 : Reads S B k (u8s ys)) :
    Calls Tryz.prog 67 #[.slice A n c, .slice B k d] w fun e w' => e = .returned (.bool (decide (xs = ys))) ∧ Mod w' w0 S := by
  go_enter Tryz.func67, Tryz.ntmps67
  go_wp2_with fail
  go_ret
  exact ⟨by by_cases h : xs = ys <;> simp [h], m⟩
/-- The rows of an edit's two lists. -/
def editRows (L : EditL) (x : EditV) : Asn := rowA 44 4 (.slice L.aA x.added.length L.aC) x.added.length (x.added.flatMap FileV.cells) * rowA 36 1 (.slice L.rA x.removed.length L.rC) x.removed.length (x.removed.map fun v : Nat => Value.int .u32 (v : Int))
def zeroEdit : Array Value := #[.slice none 0 0, .slice none 0 0, .int .u32 0, .int .u32 0, .int .u64 0]
def GetSays (S : Asn) (w0 : World) (e : Ending) (w' : World) : Option EditV → Prop
  | none => e = .returned (.tuple #[.agg zeroEdit, .int .i64 4]) ∧ Mod w' w0 S
  | some x => ∃ L, e = .returned (.tuple #[.agg (editCells L x), .int .i64 0]) ∧ x.added.length ≤ L.aC ∧ x.removed.length ≤ L.rC ∧ x.added.length ≤ 1100000 ∧ x.removed.length ≤ 1100000 ∧ Mod w' w0 (editRows L x * S)
set_option maxRecDepth 100000 in
theorem und_Edit : ∃ fs, Tryz.prog.underlying 39 = some (.struct fs) := ⟨_, Tryz.underlying39⟩
set_option maxRecDepth 100000 in
theorem size_Edit : (Tryz.prog.info? 39).map (·.size) = some 5 := by kernel_rfl
/-- A struct out of a cell, and a second result. -/
theorem results_cell_row2e {P : Program} {fn : Func} {p u : Tmp} {ty : TypeId} (h : fn.results = #[.cell p ty, .tmp u]) (tmps : Array Value) (w : World) (g : Nat) (t : TypeId) (cs : Array Value) (fr : Nat × Nat) (d : TypeDesc)
    (hp : tmps.getD p undef = .pointer (some ⟨g, 0, none⟩)) (hg : w.heap[g]? = some (.cells cs t fr))
    (hu : P.underlying ty = some d) (hd : (match d with | .struct _ | .array _ _ => true | _ => false) = true) (hi : (P.info? ty).map (·.size) = some cs.size) :
    (results fn tmps).run P w = .ok (.tuple #[.agg cs, tmps.getD u undef]) w := by
  rw [results_cell_tmp h, hp]
  simp [asAddr, run_loadVar_row w g t ty cs fr d hg hu hd hi]
theorem ePut_n (aA : Option Addr) (na aC : Nat) (rA : Option Addr) (nr rC : Nat) (fa : List FileV) (rm : List Nat) (jn nx sq : Nat) (h1 : fa.length = na) (h2 : rm.length = nr) (w w0 : World) (S : Asn) (m : Mod w w0 S) (r : ReadsEdit S ⟨aA, aC, rA, rC⟩ ⟨fa, rm, jn, nx, sq⟩) :
    Calls Tryz.prog 30 #[.agg #[.slice aA na aC, .slice rA nr rC, .int .u32 (jn : Int), .int .u32 (nx : Int), .int .u64 (sq : Int)]] w (PutSays ⟨fa, rm, jn, nx, sq⟩ S w0) := by
  subst h1 h2
  exact ePut_spec ⟨aA, aC, rA, rC⟩ ⟨fa, rm, jn, nx, sq⟩ w w0 S m r
theorem row_cap_n {w w0 : World} {e size : Nat} {A : Option Addr} {n c : Nat} {xs : List Value} {F : Asn} (m : Mod w w0 (rowA e size (.slice A n c) n xs * F)) : n ≤ c := by
  obtain ⟨A', c', h1, h2⟩ := row_slice m
  injection h1 with _ _ h3
  omega
set_option maxRecDepth 4000 in
set_option maxHeartbeats 16000000 in
theorem eGet_spec (A : Option Addr) (n c : Nat) (b : List UInt8) (w w0 : World) (S : Asn) (m : Mod w w0 S) (r : Reads S A n (u8s b)) (hn : n ≤ 1050000) (hc : n ≤ c) :
    Calls Tryz.prog 26 #[.slice A n c] w fun e w' => GetSays S w0 e w' (getE b) := by
  have hl := reads_len m r
  rw [length_u8s] at hl
  obtain ⟨z, hz⟩ : ∃ z, getE b = z := ⟨_, rfl⟩
  have hsm := pEdit_small b
  obtain ⟨fa, s1, hp1⟩ : ∃ v1 s1, pList pFile (b, false) = (v1, s1) := ⟨_, _, rfl⟩
  obtain ⟨rm, s2, hp2⟩ : ∃ v1 s2, pList pU32 s1 = (v1, s2) := ⟨_, _, rfl⟩
  obtain ⟨jn, s3, hp3⟩ : ∃ v1 s3, pU32 s2 = (v1, s3) := ⟨_, _, rfl⟩
  obtain ⟨nx, s4, hp4⟩ : ∃ v1 s4, pU32 s3 = (v1, s4) := ⟨_, _, rfl⟩
  obtain ⟨sq, b5, bad5, hp5⟩ : ∃ v1 b5 bad5, pNum m64 s4 = (v1, (b5, bad5)) := ⟨_, _, _, rfl⟩
  have hls : s1.1.length ≤ n := by
    have h := pList_le pFile_le (b, false)
    rw [hp1] at h
    simp only [hl] at h
    exact h
  have hpe : pEdit b = (⟨fa, rm, jn, nx, sq⟩, (b5, bad5)) := by unfold pEdit; simp only [hp1, hp2, hp3, hp4, hp5]
  have hz2 : z = if bad5 = true ∨ fineF fa = false ∨ editB ⟨fa, rm, jn, nx, sq⟩ ≠ b then none else some ⟨fa, rm, jn, nx, sq⟩ := by rw [← hz]; unfold getE; rw [hpe]
  rw [hpe] at hsm
  rw [hz]
  have HZ := Lib.hid hz2
  have Hsm := Lib.hid hsm
  have H1 := Lib.hid (fun (g : Nat) (u : World) (FF : Asn) (hh : Sub FF S) (hu : Rd g (b, false) S FF w0 u) => eseveralF_spec g (b, false) S FF hh u w0 hu)
  have H2 := Lib.hid (fun (g : Nat) (u : World) (FF : Asn) (hh : Sub FF S) (hu : Rd g s1 S FF w0 u) => eseveralN_spec g s1 S FF hh u w0 hu)
  have H3 := Lib.hid (fun (g : Nat) (u : World) (FF : Asn) (hh : Sub FF S) (hu : Rd g s2 S FF w0 u) => enum_spec g s2 S FF hh u w0 hu)
  have H4 := Lib.hid (fun (g : Nat) (u : World) (FF : Asn) (hh : Sub FF S) (hu : Rd g s3 S FF w0 u) => enum_spec g s3 S FF hh u w0 hu)
  have H5 := Lib.hid (fun (g : Nat) (u : World) (FF : Asn) (hh : Sub FF S) (hu : Rd g s4 S FF w0 u) => enumber_spec g 18446744073709551615 m64 m64_int s4 S FF hh u w0 hu)
  rw [hp1] at H1
  rw [hp2] at H2
  rw [hp3] at H3
  rw [hp4] at H4
  rw [hp5] at H5
  obtain ⟨na, hna⟩ : ∃ na, fa.length = na := ⟨_, rfl⟩
  obtain ⟨nr, hnr⟩ : ∃ nr, rm.length = nr := ⟨_, rfl⟩
  simp only [hna, hl] at H1
  simp only [hnr] at H2
  have Hna := Lib.hid hna
  have Hnr := Lib.hid hnr
  clear hz hz2 hsm hpe hp1 hp2 hp3 hp4 hp5 hna hnr
  obtain ⟨gx, hgx⟩ : ∃ gx, w.heap.size = gx := ⟨_, rfl⟩
  obtain ⟨gr, hgr⟩ : ∃ gr, gx + 1 = gr := ⟨_, rfl⟩
  have mA : Mod ((w.alloc (.cells zeroEdit 39)).alloc (.cells #[.slice A n c, .bool false] 113)) w0 (Go.Sl.blk (w.heap.size + 1) (.cells #[.slice A n c, .bool false] 113 (0, 0)) * (Go.Sl.blk w.heap.size (.cells zeroEdit 39 (0, 0)) * S)) := inferInstance
  rw [hgx, hgr] at mA
  have K0 : Hid (Rd gr (b, false) S (Go.Sl.blk gx (.cells zeroEdit 39 (0, 0)) * S) w0 ((w.alloc (.cells zeroEdit 39)).alloc (.cells #[.slice A n c, .bool false] 113))) := ⟨A, n, c, hl, hc, by omega, r, mA⟩
  unfold zeroEdit at K0 mA
  have R := Lib.hid r
  clear r hl
  go_enter Tryz.func26, Tryz.ntmps26
  have flag := True.intro
  go_wp2_with first
    | (go_at_call 62; clear flag; refine (H1.out gr _ _ inferInstance K0.out).mono ?_; rintro e w1 ⟨A1, c1, rfl, hl1, k1⟩; have K1 := Lib.hid k1; have m1 := k1.rest; clear k1 mA m; refine Hid.out ?_)
  have Hg := Lib.hid (And.intro hgx hgr)
  clear hgx hgr
  refine Lib.hid ?_
  have flag := True.intro
  go_wp2_with first
    | (go_at_call 64; clear flag; refine (H2.out gr _ (rowA 44 4 (.slice A1 na c1) na (fa.flatMap FileV.cells) * (Go.Sl.blk gx (.cells #[.slice A1 na c1, .slice none 0 0, .int .u32 0, .int .u32 0, .int .u64 0] 39 (0, 0)) * S)) inferInstance (K1.out.turn fun X m => mod_inst (by simp only [List.setIfInBounds_toArray, List.set_cons_zero, emp_sep]; ac_rfl))).mono ?_; rintro e w2 ⟨A2, c2, rfl, hl2, k2⟩; have K2 := Lib.hid k2; have m2 := k2.rest; clear k2 m1; refine Hid.out ?_)
  refine Lib.hid ?_
  have flag := True.intro
  go_wp2_with first
    | (go_at_call 66; clear flag; refine (H5.out gr _ _ inferInstance K4.out).mono ?_; rintro e w5 ⟨rfl, k5⟩; have K5 := Lib.hid k5; have m5 := k5.rest; clear k5 m2; refine Hid.out ?_)
    | (go_at_call 65; refine (H4.out gr _ _ inferInstance K3.out).mono ?_; rintro e w4 ⟨rfl, k4⟩; have K4 := Lib.hid k4; clear k4)
    | (go_at_call 65; refine (H3.out gr _ (rowA 36 1 (.slice A2 nr c2) nr (rm.map fun v : Nat => Value.int .u32 (v : Int)) * (rowA 44 4 (.slice A1 na c1) na (fa.flatMap FileV.cells) * (Go.Sl.blk gx (.cells #[.slice A1 na c1, .slice A2 nr c2, .int .u32 0, .int .u32 0, .int .u64 0] 39 (0, 0)) * S))) inferInstance (K2.out.turn fun X m => mod_inst (by simp only [List.setIfInBounds_toArray, List.set_cons_zero, List.set_cons_succ, emp_sep]; ac_rfl))).mono ?_; rintro e w3 ⟨rfl, k3⟩; have K3 := Lib.hid k3; clear k3)
  obtain ⟨A5, n5, c5, x1, x2, x3, x4, mm⟩ := K5.out
  have M5 := Lib.hid mm
  clear x1 x2 x3 x4 m5
  refine Lib.hid ?_
  go_wp2_with (go_at_call 30; refine Hid.out ?_)
  have m6 : Mod (((w5.setCell ⟨gx, 2, none⟩ (.int .u32 (jn : Int))).setCell ⟨gx, 3, none⟩ (.int .u32 (nx : Int))).setCell ⟨gx, 4, none⟩ (.int .u64 (sq : Int))) w0 (Go.Sl.blk gr (.cells #[.slice A5 n5 c5, .bool bad5] 113 (0, 0)) * (rowA 36 1 (.slice A2 nr c2) nr (rm.map fun v : Nat => Value.int .u32 (v : Int)) * (rowA 44 4 (.slice A1 na c1) na (fa.flatMap FileV.cells) * (Go.Sl.blk gx (.cells #[.slice A1 na c1, .slice A2 nr c2, .int .u32 (jn : Int), .int .u32 (nx : Int), .int .u64 (sq : Int)] 39 (0, 0)) * S)))) :=
    mod_inst (by simp only [List.setIfInBounds_toArray, List.set_cons_zero, List.set_cons_succ, emp_sep]; ac_rfl)
  clear mm
  generalize ((w5.setCell ⟨gx, 2, none⟩ (.int .u32 (jn : Int))).setCell ⟨gx, 3, none⟩ (.int .u32 (nx : Int))).setCell ⟨gx, 4, none⟩ (.int .u64 (sq : Int)) = w6 at *
  have hc1 := row_cap_n (Mod.pull (m := m6) (rowA 44 4 (.slice A1 na c1) na (fa.flatMap FileV.cells)))
  have hc2 := row_cap_n (Mod.pull (m := m6) (rowA 36 1 (.slice A2 nr c2) nr (rm.map fun v : Nat => Value.int .u32 (v : Int))))
  have hsm := Hsm.out
  obtain ⟨q1, q2, q3, q4, q5⟩ := hsm
  have re : ReadsEdit (Go.Sl.blk gr (.cells #[.slice A5 n5 c5, .bool bad5] 113 (0, 0)) * (rowA 36 1 (.slice A2 nr c2) nr (rm.map fun v : Nat => Value.int .u32 (v : Int)) * (rowA 44 4 (.slice A1 na c1) na (fa.flatMap FileV.cells) * (Go.Sl.blk gx (.cells #[.slice A1 na c1, .slice A2 nr c2, .int .u32 (jn : Int), .int .u32 (nx : Int), .int .u64 (sq : Int)] 39 (0, 0)) * S)))) ⟨A1, c1, A2, c2⟩ ⟨fa, rm, jn, nx, sq⟩ := by
    refine ⟨⟨rfl, ?_⟩, ⟨rfl, ?_⟩, q1, q2, ?_, ?_, q3, q4, q5, ?_, ?_⟩
    · simp only [Hna.out]
      exact reads_lift (inferInstance : Sub _ (rowA 44 4 (.slice A1 na c1) na (fa.flatMap FileV.cells))) (reads_rown (by decide))
    · simp only [Hnr.out]
      exact inferInstance
    · show fa.length ≤ _; rw [Hna.out]; omega
    · show rm.length ≤ _; rw [Hnr.out]; omega
    · show fa.length ≤ _; rw [Hna.out]; exact hc1
    · show rm.length ≤ _; rw [Hnr.out]; exact hc2
  have HP := Lib.hid (ePut_n A1 na c1 A2 nr c2 fa rm jn nx sq Hna.out Hnr.out w6 w0 _ m6 re)
  obtain ⟨ed, hed⟩ : ∃ ed : EditV, ed = ⟨fa, rm, jn, nx, sq⟩ := ⟨_, rfl⟩
  have hfe : ed.added = fa := by rw [hed]
  rw [← hed] at HP HZ
  have Hed := Lib.hid hed
  have Hfe := Lib.hid hfe
  clear re hed hfe q1 q2 q3 q4 q5 Hsm M5 H1 H2 H3 H4 H5 K0 K1 K2 K3 K4 K5
  have hnr1 : nr ≤ 1100000 := by omega
  clear hls
  refine Lib.hid ?_
  refine HP.out.mono ?_
  rintro e w7 (⟨hf, rfl, m7⟩ | ⟨hf, A7, c7, rfl, m7⟩)
  · obtain rfl : z = none := by rw [HZ.out]; exact if_pos (.inr (.inl (by rw [← Hfe.out]; exact hf)))
    clear hf
    cases bad5
    · go_wp2_with fail
      have m8 : Mod (((((w7.setCell ⟨gx, 0, none⟩ (.slice none 0 0)).setCell ⟨gx, 1, none⟩ (.slice none 0 0)).setCell ⟨gx, 2, none⟩ (.int .u32 0)).setCell ⟨gx, 3, none⟩ (.int .u32 0)).setCell ⟨gx, 4, none⟩ (.int .u64 0)) w0 (Go.Sl.blk gx (.cells #[.slice none 0 0, .slice none 0 0, .int .u32 0, .int .u32 0, .int .u64 0] 39 (0, 0)) * (Go.Sl.blk gr (.cells #[.slice A5 n5 c5, .bool false] 113 (0, 0)) * (rowA 36 1 (.slice A2 nr c2) nr (rm.map fun v : Nat => Value.int .u32 (v : Int)) * (rowA 44 4 (.slice A1 na c1) na (fa.flatMap FileV.cells) * S)))) := mod_inst (by simp only [List.setIfInBounds_toArray, List.set_cons_zero, List.set_cons_succ, emp_sep] <;> ac_rfl)
      obtain ⟨fs, hu⟩ := und_Edit
      refine bodyPost_ret (results_cell_row2e rfl _ _ gx 39 #[.slice none 0 0, .slice none 0 0, .int .u32 0, .int .u32 0, .int .u64 0] (0, 0) _ rfl (Mod.heap (m := m8)) hu rfl (by rw [size_Edit]; rfl)) rfl ?_
      exact ⟨rfl, Mod.keep m8⟩
    · go_wp2_with fail
      have m8 : Mod (((((w7.setCell ⟨gx, 0, none⟩ (.slice none 0 0)).setCell ⟨gx, 1, none⟩ (.slice none 0 0)).setCell ⟨gx, 2, none⟩ (.int .u32 0)).setCell ⟨gx, 3, none⟩ (.int .u32 0)).setCell ⟨gx, 4, none⟩ (.int .u64 0)) w0 (Go.Sl.blk gx (.cells #[.slice none 0 0, .slice none 0 0, .int .u32 0, .int .u32 0, .int .u64 0] 39 (0, 0)) * (Go.Sl.blk gr (.cells #[.slice A5 n5 c5, .bool true] 113 (0, 0)) * (rowA 36 1 (.slice A2 nr c2) nr (rm.map fun v : Nat => Value.int .u32 (v : Int)) * (rowA 44 4 (.slice A1 na c1) na (fa.flatMap FileV.cells) * S)))) := mod_inst (by simp only [List.setIfInBounds_toArray, List.set_cons_zero, List.set_cons_succ, emp_sep] <;> ac_rfl)
      obtain ⟨fs, hu⟩ := und_Edit
      refine bodyPost_ret (results_cell_row2e rfl _ _ gx 39 #[.slice none 0 0, .slice none 0 0, .int .u32 0, .int .u32 0, .int .u64 0] (0, 0) _ rfl (Mod.heap (m := m8)) hu rfl (by rw [size_Edit]; rfl)) rfl ?_
      exact ⟨rfl, Mod.keep m8⟩
  · cases bad5
    · have HE := Lib.hid (fun (u : World) mu => bEqual_spec A7 A (editB ed).length n c7 c (editB ed) b u w0 (rowA 5 1 (.slice A7 (editB ed).length c7) (editB ed).length (u8s (editB ed)) * (Go.Sl.blk gr (.cells #[.slice A5 n5 c5, .bool false] 113 (0, 0)) * (rowA 36 1 (.slice A2 nr c2) nr (rm.map fun v : Nat => Value.int .u32 (v : Int)) * (rowA 44 4 (.slice A1 na c1) na (fa.flatMap FileV.cells) * (Go.Sl.blk gx (.cells #[.slice A1 na c1, .slice A2 nr c2, .int .u32 (jn : Int), .int .u32 (nx : Int), .int .u64 (sq : Int)] 39 (0, 0)) * S))))) mu inferInstance (reads_lift inferInstance R.out))
      by_cases heq : editB ed = b
      · have hzs : z = some ed := by
          rw [HZ.out]
          refine if_neg ?_
          simp only [not_or]
          exact ⟨by simp, by rw [← Hfe.out, hf]; simp, fun h => h heq⟩
        subst hzs
        rw [decide_eq_true heq] at HE
        clear heq hf
        have flag := True.intro
        go_wp2_with first
          | (go_at_call 67; clear flag; refine (HE.out _ m7).mono ?_; rintro e w8 ⟨rfl, m8a⟩)
        have hed := Hed.out
        clear m7
        have m7 := m8a
        clear m8a
        have hw : w8 = w8 := rfl
        have m8 : Mod (((((w8.setCell ⟨gx, 0, none⟩ (.slice A1 na c1)).setCell ⟨gx, 1, none⟩ (.slice A2 nr c2)).setCell ⟨gx, 2, none⟩ (.int .u32 (jn : Int))).setCell ⟨gx, 3, none⟩ (.int .u32 (nx : Int))).setCell ⟨gx, 4, none⟩ (.int .u64 (sq : Int))) w0 (Go.Sl.blk gx (.cells #[.slice A1 na c1, .slice A2 nr c2, .int .u32 (jn : Int), .int .u32 (nx : Int), .int .u64 (sq : Int)] 39 (0, 0)) * (rowA 5 1 (.slice A7 (editB ed).length c7) (editB ed).length (u8s (editB ed)) * (Go.Sl.blk gr (.cells #[.slice A5 n5 c5, .bool false] 113 (0, 0)) * (rowA 36 1 (.slice A2 nr c2) nr (rm.map fun v : Nat => Value.int .u32 (v : Int)) * (rowA 44 4 (.slice A1 na c1) na (fa.flatMap FileV.cells) * S))))) := mod_inst (by simp only [List.setIfInBounds_toArray, List.set_cons_zero, List.set_cons_succ, emp_sep] <;> ac_rfl)
        obtain ⟨fs, hu⟩ := und_Edit
        refine bodyPost_ret (results_cell_row2e rfl _ _ gx 39 #[.slice A1 na c1, .slice A2 nr c2, .int .u32 (jn : Int), .int .u32 (nx : Int), .int .u64 (sq : Int)] (0, 0) _ rfl (Mod.heap (m := m8)) hu rfl (by rw [size_Edit]; rfl)) rfl ?_
        subst hed
        refine ⟨⟨A1, c1, A2, c2⟩, ?_, by show fa.length ≤ _; rw [Hna.out]; exact hc1, by show rm.length ≤ _; rw [Hnr.out]; exact hc2, by show fa.length ≤ _; rw [Hna.out]; omega, by show rm.length ≤ _; rw [Hnr.out]; omega, ?_⟩
        · unfold editCells; simp only [Hna.out, Hnr.out]; rfl
        · unfold editRows
          simp only [Hna.out, Hnr.out]
          rw [sep_assoc]
          exact Mod.keep m8
      · have hzs : z = none := by rw [HZ.out]; exact if_pos (.inr (.inr heq))
        subst hzs
        rw [decide_eq_false heq] at HE
        clear heq hf
        have flag := True.intro
        go_wp2_with first
          | (go_at_call 67; clear flag; refine (HE.out _ m7).mono ?_; rintro e w8 ⟨rfl, m8a⟩)
        clear m7
        have m7 := m8a
        clear m8a
        have m8 : Mod (((((w8.setCell ⟨gx, 0, none⟩ (.slice none 0 0)).setCell ⟨gx, 1, none⟩ (.slice none 0 0)).setCell ⟨gx, 2, none⟩ (.int .u32 0)).setCell ⟨gx, 3, none⟩ (.int .u32 0)).setCell ⟨gx, 4, none⟩ (.int .u64 0)) w0 (Go.Sl.blk gx (.cells #[.slice none 0 0, .slice none 0 0, .int .u32 0, .int .u32 0, .int .u64 0] 39 (0, 0)) * (rowA 5 1 (.slice A7 (editB ed).length c7) (editB ed).length (u8s (editB ed)) * (Go.Sl.blk gr (.cells #[.slice A5 n5 c5, .bool false] 113 (0, 0)) * (rowA 36 1 (.slice A2 nr c2) nr (rm.map fun v : Nat => Value.int .u32 (v : Int)) * (rowA 44 4 (.slice A1 na c1) na (fa.flatMap FileV.cells) * S))))) := mod_inst (by simp only [List.setIfInBounds_toArray, List.set_cons_zero, List.set_cons_succ, emp_sep] <;> ac_rfl)
        obtain ⟨fs, hu⟩ := und_Edit
        refine bodyPost_ret (results_cell_row2e rfl _ _ gx 39 #[.slice none 0 0, .slice none 0 0, .int .u32 0, .int .u32 0, .int .u64 0] (0, 0) _ rfl (Mod.heap (m := m8)) hu rfl (by rw [size_Edit]; rfl)) rfl ?_
        exact ⟨rfl, Mod.keep m8⟩
    · obtain rfl : z = none := by rw [HZ.out]; exact if_pos (.inl rfl)
      clear hf
      go_wp2_with fail
      have m8 : Mod (((((w7.setCell ⟨gx, 0, none⟩ (.slice none 0 0)).setCell ⟨gx, 1, none⟩ (.slice none 0 0)).setCell ⟨gx, 2, none⟩ (.int .u32 0)).setCell ⟨gx, 3, none⟩ (.int .u32 0)).setCell ⟨gx, 4, none⟩ (.int .u64 0)) w0 (Go.Sl.blk gx (.cells #[.slice none 0 0, .slice none 0 0, .int .u32 0, .int .u32 0, .int .u64 0] 39 (0, 0)) * (rowA 5 1 (.slice A7 (editB ed).length c7) (editB ed).length (u8s (editB ed)) * (Go.Sl.blk gr (.cells #[.slice A5 n5 c5, .bool true] 113 (0, 0)) * (rowA 36 1 (.slice A2 nr c2) nr (rm.map fun v : Nat => Value.int .u32 (v : Int)) * (rowA 44 4 (.slice A1 na c1) na (fa.flatMap FileV.cells) * S))))) := mod_inst (by simp only [List.setIfInBounds_toArray, List.set_cons_zero, List.set_cons_succ, emp_sep] <;> ac_rfl)
      obtain ⟨fs, hu⟩ := und_Edit
      refine bodyPost_ret (results_cell_row2e rfl _ _ gx 39 #[.slice none 0 0, .slice none 0 0, .int .u32 0, .int .u32 0, .int .u64 0] (0, 0) _ rfl (Mod.heap (m := m8)) hu rfl (by rw [size_Edit]; rfl)) rfl ?_
      exact ⟨rfl, Mod.keep m8⟩
end Go.Proofs.YtmhlebpchllpbaaGreatDoor
