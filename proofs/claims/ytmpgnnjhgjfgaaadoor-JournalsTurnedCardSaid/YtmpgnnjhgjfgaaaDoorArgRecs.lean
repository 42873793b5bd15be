/- Records that came in, read: plain lemmas. -/
import Derived.Test.YtmpgnnjhgjfgaaaDoorRecs
import Derived.Test.YtmpgnnjhgjfgaaaDoorArgActs
namespace Go.Proofs.YtmpgnnjhgjfgaaaDoor
open Go.ChangeShapes Go.WideShapes Go.ChangeAt Go.RowKit Go.Sl Go.Deep
section
variable {H : Type} {enc : TypeId × Value → H} {W : World} {base : Nat} {held : Bool}
set_option maxRecDepth 100000 in
theorem arg_records {a : Option Addr} {n c : Nat} {d : DataW H} {p : List MemPlace} (h : DataW.Trod enc Tryd.prog W base (fun _ => true) held 22 (.slice a n c) d p)
    {ts : List TypeId} {ds : List (DataW H)} (hs : (DataW.weightsEach Tryd.prog ts ds).all (· ≤ reachBytes) = true) {j : Nat} (ht : ts[j]? = some 22) (hd : ds[j]? = some d) :
    ∃ rs : List (List UInt8), ReadsRecs (just (hp W)) a n rs ∧ n ≤ c ∧ n ≤ reachBytes ∧ ∀ s ∈ rs, s.length ≤ reachBytes := by
  obtain ⟨fuel, hf⟩ := h
  rcases open_int_rows Tryd.underlying22 Tryd.underlying35 Tryd.underlying5 cells_bytes cells_u8 hf with ⟨h1, h2⟩ | ⟨a', n', c', Ad, L, C, Z, h1, _, hl, hm, h2, h3⟩
  · simp [Value.cells] at h1
    obtain ⟨rfl, rfl, rfl⟩ := h1
    exact ⟨[], ⟨rfl, [], rfl, reads_nil, by simp⟩, Nat.le_refl _, Nat.zero_le _, by simp⟩
  · simp [Value.cells] at h1
    obtain ⟨rfl, rfl, rfl⟩ := h1
    have each : ∀ r, r < n → ∃ ys : List UInt8, ys.length = L r ∧ Reads (just (hp W)) (Ad r) (L r) (u8s ys) := fun r hr => by
      obtain ⟨_, g2, _, g4, g5, g6, g7⟩ := h3 r (by omega)
      obtain ⟨ys, e1, e2⟩ := nats_u8 (xs := (Z r).take (L r)) fun y hy => g5 y (List.mem_of_mem_take hy)
      have hlen : ys.length = L r := by rw [e2, List.length_take]; omega
      refine ⟨ys, hlen, ?_⟩
      cases ha : Ad r with
      | none =>
        have hL : L r = 0 := by have := g6 ha; omega
        rw [hL] at hlen ⊢
        rw [List.eq_nil_of_length_eq_zero hlen]
        exact reads_nil
      | some ad =>
        obtain ⟨_, g8⟩ := g7 ad ha
        rw [← e1]
        refine reads_of_cells (by rw [List.length_map, List.length_take]; omega) fun i v hv => ?_
        simp only [List.getElem?_map, List.getElem?_take] at hv
        split at hv
        · rw [g8 i (by omega)]
          cases hz2 : (Z r)[i]? with
          | none => rw [hz2] at hv; cases hv
          | some z =>
            rw [hz2] at hv
            simp only [Option.map_some, Option.some.injEq] at hv
            rw [← hv, List.getD_eq_getElem?_getD, hz2]; rfl
        · cases hv
    obtain ⟨q, hq⟩ := choose_lt each
    injection h2 with hd2 _
    subst hd2
    have hn := sized_len hs ht hd Tryd.underlying22 (by rw [show Tryd.prog.bytesOf 35 = 24 from by kernel_rfl]; decide)
    rw [List.length_map, List.length_range] at hn
    have hL : ∀ i, i < n → L i ≤ reachBytes := fun i hi => by
      obtain ⟨_, g2, _, g4, _, g6, _⟩ := h3 i (by omega)
      cases ha : Ad i with
      | none => have := g6 ha; omega
      | some ad =>
        have hk := List.all_eq_true.1 hs ((L i + (C i - L i)) * Tryd.prog.bytesOf 5) (DataW.weights_mem_each ht hd _ (by
          simp only [DataW.weights, Tryd.underlying22]
          refine List.mem_cons_of_mem _ (List.mem_append_left _ (weights_elem (List.mem_map_of_mem (List.mem_range.2 hi)) ?_))
          simp only [intRow, ha, DataW.weights, Tryd.underlying35]
          refine List.mem_cons.2 (.inl ?_)
          simp only [lits, List.length_map, List.length_take, List.length_drop]
          congr 1; omega))
        have hb : Tryd.prog.bytesOf 5 = 1 := by kernel_rfl
        rw [hb] at hk
        have := of_decide_eq_true hk
        omega
    refine ⟨(List.range n).map q, ⟨by simp, (List.range n).map fun r => (Ad r, C r), by simp, ?_, fun i h1 h2 => ?_⟩, hl, hn, fun s hs => ?_⟩
    · refine reads_of_cells (by simp) fun i v hv => ?_
      by_cases hi : i < n
      · rw [List.getElem?_map, List.getElem?_eq_getElem (by simpa using hi)] at hv
        simp at hv
        rw [← hv, (hq i hi).1]
        exact (h3 i (by omega)).1
      · rw [List.getElem?_eq_none (by simpa using hi)] at hv; cases hv
    · have hi : i < n := by simpa using h1
      simp only [List.getElem_map, List.getElem_range]
      obtain ⟨e1, e2⟩ := hq i hi
      rw [e1]
      exact ⟨e2, (h3 i (by omega)).2.1⟩
    · obtain ⟨i, hi, rfl⟩ := List.mem_map.1 hs
      have hi := List.mem_range.1 hi
      rw [(hq i hi).1]; exact hL i hi
end
end Go.Proofs.YtmpgnnjhgjfgaaaDoor
