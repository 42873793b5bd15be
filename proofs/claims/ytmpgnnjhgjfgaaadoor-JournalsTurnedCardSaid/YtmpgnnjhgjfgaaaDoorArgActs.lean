/- Acts that came in, read: plain lemmas. -/
import Derived.Test.YtmpgnnjhgjfgaaaDoorActs
namespace Go.Proofs.YtmpgnnjhgjfgaaaDoor
open Go.ChangeShapes Go.WideShapes Go.ChangeAt Go.RowKit Go.Sl Go.Deep
theorem flat_cell : ∀ (l : List ActV) (i : Nat) (v : Value), (l.flatMap ActV.cells)[i]? = some v → ∃ h : i / 7 < l.length, l[i / 7].cells[i % 7]? = some v
  | [], i, _, h => by simp at h
  | x :: l, i, v, h => by
    have hl : x.cells.length = 7 := rfl
    rw [List.flatMap_cons] at h
    by_cases hi : i < 7
    · rw [List.getElem?_append_left (by rw [hl]; exact hi)] at h
      have e1 : i / 7 = 0 := by omega
      have e2 : i % 7 = i := by omega
      refine ⟨by rw [e1]; simp, ?_⟩
      simp only [e1, e2, List.getElem_cons_zero]
      exact h
    · rw [List.getElem?_append_right (by rw [hl]; omega), hl] at h
      obtain ⟨h1, h2⟩ := flat_cell l (i - 7) v h
      have e1 : i / 7 = (i - 7) / 7 + 1 := by omega
      have e2 : i % 7 = (i - 7) % 7 := by omega
      refine ⟨by rw [e1, List.length_cons]; omega, ?_⟩
      simp only [e1, e2, List.getElem_cons_succ]
      exact h2
theorem weights_elem {H : Type} {P : Program} {e : TypeId} {x : DataW H} {k : Nat} : ∀ {elems : List (DataW H)}, x ∈ elems → k ∈ x.weights P e → k ∈ DataW.weightsAll P e elems
  | [], h, _ => by cases h
  | y :: elems, h, hk => by
    simp only [DataW.weightsAll, List.mem_append]
    rcases List.mem_cons.1 h with rfl | h
    · exact .inl hk
    · exact .inr (weights_elem h hk)
set_option maxRecDepth 100000 in
theorem cells_bytes : Tryd.prog.cellsOf 35 = 1 := by kernel_rfl
set_option maxRecDepth 100000 in
theorem cells_int : Tryd.prog.cellsOf 3 = 1 := by kernel_rfl
set_option maxRecDepth 100000 in
theorem cells_act : Tryd.prog.cellsOf 90 = 7 := by kernel_rfl
set_option maxRecDepth 100000 in
theorem bytes_u8 : Tryd.prog.bytesOf 5 = 1 := by kernel_rfl
section
variable {H : Type} {enc : TypeId × Value → H} {W : World} {base : Nat} {held : Bool}
/-- A byte slice's cell. -/
theorem bytes_cell {fuel : Nat} {v : Value} {x : DataW H × List MemPlace} (h : DataW.trod enc Tryd.prog W base (fun _ => true) held fuel 35 [v] = some x) :
    ∃ (a : Option Addr) (c : Nat) (b : List UInt8), v = .slice a b.length c ∧ Reads (just (hp W)) a b.length (u8s b) ∧ (b = [] ∨ ∃ el sp, x.1 = .slice el sp ∧ el.length = b.length) := by
  rcases open_ints Tryd.underlying35 Tryd.underlying5 cells_u8 h with ⟨h1, h2⟩ | ⟨a', n', c', zs, h1, _, hl, hm, hz, h2, h3, h4⟩
  · simp at h1
    exact ⟨none, 0, [], h1, reads_nil, .inl rfl⟩
  · simp at h1
    simp only [if_true] at hz
    obtain ⟨ys, e1, e2⟩ := nats_u8 (xs := zs.take n') fun y hy => h4 y (List.mem_of_mem_take hy)
    have hlen : ys.length = n' := by rw [e2, List.length_take]; omega
    refine ⟨some a', c', ys, by rw [hlen]; exact h1, ?_, .inr ⟨_, _, by rw [h2], by rw [hlen]; simp [lits]; omega⟩⟩
    rw [← e1, hlen]
    refine reads_of_cells (by rw [List.length_map, List.length_take]; omega) fun i v hv => ?_
    simp only [List.getElem?_map, List.getElem?_take] at hv
    split at hv
    · rw [h3 i (by omega)]
      cases hz2 : zs[i]? with
      | none => rw [hz2] at hv; cases hv
      | some z =>
        rw [hz2] at hv
        simp only [Option.map_some, Option.some.injEq] at hv
        rw [← hv, List.getD_eq_getElem?_getD, hz2]; rfl
    · cases hv
structure ActAt (W : World) (H : Type) (ad : Addr) (i : Nat) (d : DataW H) (x : ActV) : Prop where
  cell : ∀ j v, x.cells[j]? = some v → W.cell? (ad.add (i * 7 + j)) = some v
  bytes : Reads (just (hp W)) x.bA x.b.length (u8s x.b)
  kind : x.kind < 256
  data : ∃ d0 d3 d4 d5 d6, d = .agg [d0, .lit (.string x.name.data.toList), .lit (.string x.to.data.toList), d3, d4, d5, d6] ∧ (x.b = [] ∨ ∃ el sp, d3 = .slice el sp ∧ el.length = x.b.length)
set_option maxRecDepth 100000 in
theorem act_at {fuel : Nat} {ad : Addr} {i : Nat} {cs : List Value} {x : DataW H × List MemPlace} (h1 : W.cells? base (ad.add (i * 7)) 7 = some cs) (h2 : DataW.trod enc Tryd.prog W base (fun _ => true) held fuel 90 cs = some x) : ∃ y, ActAt W H ad i x.1 y := by
  obtain ⟨_, hlen, hcell⟩ := World.cells?_some h1
  obtain ⟨xs, k, hk, hxy, _, hxl, hf⟩ := DataW.trod_struct Tryd.underlying90 h2
  match xs, hxl, cs, hlen with
  | [y0, y1, y2, y3, y4, y5, y6], _, [v0, v1, v2, v3, v4, v5, v6], _ =>
    have g0 := hf 0 _ rfl
    have g1 := hf 1 _ rfl
    have g2 := hf 2 _ rfl
    have g3 := hf 3 _ rfl
    have g4 := hf 4 _ rfl
    have g5 := hf 5 _ rfl
    have g6 := hf 6 _ rfl
    simp [cells_u8, cells_string, cells_bytes, cells_int, cells_bool] at g0 g1 g2 g3 g4 g5 g6
    obtain ⟨n0, e0, x0, w0⟩ := DataW.trod_int Tryd.underlying5 g0
    obtain ⟨s1, e1, x1, w1⟩ := DataW.trod_string Tryd.underlying9 g1
    obtain ⟨s2, e2, x2, w2⟩ := DataW.trod_string Tryd.underlying9 g2
    obtain ⟨a3, c3, b3, e3, r3, x3⟩ := bytes_cell g3
    obtain ⟨n4, e4, x4, w4⟩ := DataW.trod_int Tryd.underlying3 g4
    obtain ⟨n5, e5, x5, w5⟩ := DataW.trod_int Tryd.underlying3 g5
    obtain ⟨b6, e6, x6⟩ := DataW.trod_bool Tryd.underlying4 g6
    simp at e0 e1 e2 e4 e5 e6
    obtain ⟨k0, rfl, hk0⟩ := wf_u8 w0
    subst e0 e1 e2 e3 e4 e5 e6 x1 x2
    refine ⟨⟨k0, s1, s2, a3, c3, b3, n4, n5, b6⟩, ?_, r3, hk0, y0.1, y3.1, y4.1, y5.1, y6.1, ?_, x3⟩
    · intro j v hv
      have hj : j < 7 := (List.getElem?_eq_some_iff.1 hv).1
      have := hcell j hj
      rw [add_add] at this
      rw [this]
      exact hv
    · rw [hxy]; rfl
set_option maxRecDepth 100000 in
theorem arg_acts {a : Option Addr} {n c : Nat} {d : DataW H} {p : List MemPlace} (h : DataW.Trod enc Tryd.prog W base (fun _ => true) held 55 (.slice a n c) d p)
    {ts : List TypeId} {ds : List (DataW H)} (hs : (DataW.weightsEach Tryd.prog ts ds).all (· ≤ reachBytes) = true) {j : Nat} (ht : ts[j]? = some 55) (hd : ds[j]? = some d) : ∃ l, ReadsActs (just (hp W)) a n l ∧ n ≤ 9223372036854775807 := by
  obtain ⟨fuel, hf⟩ := h
  rcases open_slice Tryd.underlying55 hf with ⟨h1, h2⟩ | ⟨a', n', c', m, k, D, Pl, h1, _, hl, hm, hmm, h2, h3⟩
  · simp [Value.cells] at h1
    obtain ⟨rfl, rfl, rfl⟩ := h1
    exact ⟨[], ⟨rfl, reads_nil, by simp, by simp, by simp⟩, by omega⟩
  · simp [Value.cells] at h1
    obtain ⟨rfl, rfl, rfl⟩ := h1
    have hlm := le_m hl hmm
    rw [cells_act] at h3
    have each : ∀ i, i < n → ∃ y, ActAt W H a' i (D i) y := fun i hi => by
      obtain ⟨cs, g1, g2⟩ := h3 i (by omega)
      exact act_at g1 g2
    have : Inhabited ActV := ⟨⟨0, ⟨#[]⟩, ⟨#[]⟩, none, 0, [], 0, 0, false⟩⟩
    obtain ⟨q, hq⟩ := choose_lt each
    have hmem : ∀ x ∈ (List.range n).map q, ∃ i, i < n ∧ x = q i := fun x hx => by
      obtain ⟨i, hi, rfl⟩ := List.mem_map.1 hx
      exact ⟨i, List.mem_range.1 hi, rfl⟩
    unfold maxLen at hm
    injection h2 with hd2 _
    have hbound : ∀ i, i < n → ∀ k, k ∈ (D i).weights Tryd.prog 90 → k ≤ reachBytes := fun i hi k hk => by
      have := List.all_eq_true.1 hs k (DataW.weights_mem_each ht hd k (by
        rw [hd2]
        simp only [DataW.weights, Tryd.underlying55]
        exact List.mem_cons_of_mem _ (List.mem_append_left _ (weights_elem (List.mem_map_of_mem (List.mem_range.2 hi)) hk))))
      exact of_decide_eq_true this
    refine ⟨(List.range n).map q, ⟨by simp, ?_, ?_, ?_, ?_⟩, by omega⟩
    · refine reads_of_cells ?_ fun i v hv => ?_
      · rw [List.length_flatMap]
        have : ((List.range n).map q).map (fun x => x.cells.length) = List.replicate n 7 := by
          apply List.ext_getElem <;> simp [ActV.cells]
        rw [this, List.sum_replicate_nat]
      · obtain ⟨g1, g2⟩ := flat_cell _ i v hv
        have hi : i / 7 < n := by simpa using g1
        have := (hq (i / 7) hi).cell (i % 7) v (by simpa using g2)
        rw [show i / 7 * 7 + i % 7 = i by omega] at this
        exact this
    · intro x hx
      obtain ⟨i, hi, rfl⟩ := hmem x hx
      exact (hq i hi).bytes
    · intro x hx
      obtain ⟨i, hi, rfl⟩ := hmem x hx
      exact (hq i hi).kind
    · intro x hx
      obtain ⟨i, hi, rfl⟩ := hmem x hx
      obtain ⟨d0, d3, d4, d5, d6, hdi, hb⟩ := (hq i hi).data
      have hall : ∀ k, k ∈ DataW.weightsEach Tryd.prog [5, 9, 9, 35, 3, 3, 4] [d0, .lit (.string (q i).name.data.toList), .lit (.string (q i).to.data.toList), d3, d4, d5, d6] → k ≤ reachBytes := fun k hk => by
        refine hbound i hi k ?_
        rw [hdi]
        simp only [DataW.weights, Tryd.underlying90]
        exact hk
      have b1 := hall _ (DataW.weights_mem_each (j := 1) rfl rfl (q i).name.data.toList.length (by simp [DataW.weights]))
      have b2 := hall _ (DataW.weights_mem_each (j := 2) rfl rfl (q i).to.data.toList.length (by simp [DataW.weights]))
      rw [size_toList] at b1 b2
      unfold reachBytes at b1 b2
      refine ⟨?_, by omega, by omega⟩
      rcases hb with hb | ⟨el, sp, hel, hlen⟩
      · rw [hb]; simp
      · have b3 := hall _ (DataW.weights_mem_each (j := 3) (t := 35) (d := d3) rfl rfl ((el.length + sp.length) * Tryd.prog.bytesOf 5) (by rw [hel]; simp [DataW.weights, Tryd.underlying35]))
        rw [bytes_u8] at b3
        unfold reachBytes at b3
        omega
end
end Go.Proofs.YtmpgnnjhgjfgaaaDoor
