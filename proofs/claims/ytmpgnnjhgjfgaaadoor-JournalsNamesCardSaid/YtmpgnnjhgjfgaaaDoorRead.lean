/- The walks of bytes.Clone and of journals' function read: what the bytes of a journal read as: contracts over the small separation logic; the conditions are in each theorem. -/
import Derived.Test.YtmpgnnjhgjfgaaaDoorSums
import Derived.Test.YtmpgnnjhgjfgaaaDoorInts
import Derived.Test.YtmpgnnjhgjfgaaaDoorRecs
namespace Go.Proofs.YtmpgnnjhgjfgaaaDoor
open Go.RowKit Go.Sl
attribute [local go_sem] cell_of frozen_of zero_names eql_nil_bytes
set_option maxHeartbeats 1000000 in
theorem bclone_bytes (A : Option Addr) (k c : Nat) (xs : List Value) (w w0 : World) (S : Asn) (m : Mod w w0 S) (r : Reads S A k xs) (h1 : ∀ u ∈ xs, u.oneCell' = true) (hk : k ≤ 140737488355328) :
    Calls Tryd.prog 50 #[.slice A k c] w fun e w' => ∃ A' c', e = .returned (.slice A' k c') ∧ Mod w' w0 (rowA 5 1 (.slice A' k c') k xs * S) := by
  have hlen := reads_len m r
  cases A with
  | none =>
    have hk0 : k = 0 := by
      rcases Nat.eq_zero_or_pos k with h | h
      · exact h
      · obtain ⟨ad, ha, _⟩ := reads_cell m r h; cases ha
    subst hk0
    have hxs : xs = [] := List.eq_nil_of_length_eq_zero hlen
    subst hxs
    go_enter Tryd.func50, Tryd.ntmps50
    go_wp2
    go_ret
    exact ⟨none, 0, rfl, row_none m⟩
  | some ad =>
    go_enter Tryd.func50, Tryd.ntmps50
    go_wp2_with (at_builtin; (refine wpList_append (v := .slice (some ⟨w.heap.size, 0, none⟩) 0 0) (A := some ad) (k := k) (c := c) rfl rfl (row_made inferInstance) rfl rfl h1 (by unfold maxLen; omega) (by omega) ?_); intro A' c' w3 _m3)
    go_ret
    simp only [Nat.zero_add, List.nil_append, emp_sep] at _m3 ⊢
    exact ⟨A', c', rfl, _m3⟩
structure RecsIn (G : Asn) (xs : List Value) (rs : List (List UInt8)) : Prop where
  each : ∃ hs : List (Option Addr × Nat), hs.length = rs.length ∧ xs = ((hs.zip rs).map fun q => Value.slice q.1.1 q.2.length q.1.2) ∧ ∀ i (h1 : i < hs.length) (h2 : i < rs.length), Reads G hs[i].1 rs[i].length (u8s rs[i]) ∧ rs[i].length ≤ hs[i].2
theorem RecsIn.length {G : Asn} {xs : List Value} {rs : List (List UInt8)} (r : RecsIn G xs rs) : xs.length = rs.length := by
  obtain ⟨hs, h1, rfl, _⟩ := r
  simp [h1]
theorem RecsIn.nil (G : Asn) : RecsIn G [] [] := ⟨[], rfl, rfl, fun i h => absurd h (by simp)⟩
theorem RecsIn.snoc {G : Asn} {xs : List Value} {rs : List (List UInt8)} (r : RecsIn G xs rs) (A : Option Addr) (c : Nat) (l : List UInt8) (hc : l.length ≤ c) :
    RecsIn (rowA 5 1 (.slice A l.length c) l.length (u8s l) * G) (xs ++ [.slice A l.length c]) (rs ++ [l]) := by
  obtain ⟨hs, h1, rfl, h3⟩ := r
  refine ⟨hs ++ [(A, c)], by simp [h1], by rw [List.zip_append h1]; simp, fun i a b => ?_⟩
  by_cases h : i < rs.length
  · have hi : i < hs.length := by omega
    have := h3 i hi h
    simp only [List.getElem_append_left h, List.getElem_append_left hi]
    exact ⟨reads_lift inferInstance this.1, this.2⟩
  · have e : i = rs.length := by simp at b; omega
    subst e
    have e1 : (hs ++ [(A, c)])[rs.length] = (A, c) := by
      rw [List.getElem_append_right (by omega)]; simp [h1]
    have e2 : (rs ++ [l])[rs.length] = l := by simp
    simp only [e1, e2]
    exact ⟨inferInstance, hc⟩
theorem seven {b : List UInt8} {q : Nat} (h : q + 7 ≤ b.length) : ∃ a0 a1 a2 a3 l1 l0 kind, b.drop q = a0 :: a1 :: a2 :: a3 :: l1 :: l0 :: kind :: b.drop (q + 7) ∧ b[q + 4]? = some l1 ∧ b[q + 5]? = some l0 ∧ b[q + 6]? = some kind := by
  refine ⟨b[q], b[q + 1], b[q + 2], b[q + 3], b[q + 4], b[q + 5], b[q + 6], ?_, List.getElem?_eq_getElem _, List.getElem?_eq_getElem _, List.getElem?_eq_getElem _⟩
  rw [List.drop_eq_getElem_cons (by omega), List.drop_eq_getElem_cons (by omega : q + 1 < b.length), List.drop_eq_getElem_cons (by omega : q + 1 + 1 < b.length), List.drop_eq_getElem_cons (by omega : q + 1 + 1 + 1 < b.length),
    List.drop_eq_getElem_cons (by omega : q + 1 + 1 + 1 + 1 < b.length), List.drop_eq_getElem_cons (by omega : q + 1 + 1 + 1 + 1 + 1 < b.length), List.drop_eq_getElem_cons (by omega : q + 1 + 1 + 1 + 1 + 1 + 1 < b.length)]
theorem partAt_eq {b : List UInt8} {q : Nat} {a0 a1 a2 a3 l1 l0 kind : UInt8} (h : b.drop q = a0 :: a1 :: a2 :: a3 :: l1 :: l0 :: kind :: b.drop (q + 7)) :
    Sl.partAt b q = if (128 - (q + 7) % 128 < l1.toNat * 256 + l0.toNat ∧ 0 < l1.toNat * 256 + l0.toNat) ∨ (b.drop (q + 7)).length < l1.toNat * 256 + l0.toNat ∨ (crcOf kind ((b.drop (q + 7)).take (l1.toNat * 256 + l0.toNat))).toNat ≠ four4 a0 a1 a2 a3 then none
    else some (kind, (b.drop (q + 7)).take (l1.toNat * 256 + l0.toNat), q + 7 + (l1.toNat * 256 + l0.toNat)) := by
  unfold Sl.partAt
  rw [h]
end Go.Proofs.YtmpgnnjhgjfgaaaDoor
