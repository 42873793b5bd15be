/- Arguments that are slices, read: plain lemmas. -/
import Derived.Test.YtmpgnnjhgjfgaaaDoorOpen
import Derived.Test.YtmpgnnjhgjfgaaaDoorTexts
import Derived.Deep.Strs
import Derived.Deep.Grids
import Derived.Deep.Matrix
namespace Go.Proofs.YtmpgnnjhgjfgaaaDoor
open Go.ChangeShapes Go.WideShapes Go.ChangeAt Go.RowKit Go.Sl Go.Deep
theorem reads_of_cells {W : World} {a : Addr} {n : Nat} {xs : List Value} (hl : xs.length = n) (h : ∀ i v, xs[i]? = some v → W.cell? (a.add i) = some v) : Reads (just (hp W)) (some a) n xs := by
  refine ⟨fun _ _ => hl, fun x hx hn => ?_⟩
  have hx : x = hp W := hx
  have hs : a.spot = none := by
    have h0 := h 0 xs[0] (by simp)
    rw [show a.add 0 = a from rfl] at h0
    unfold World.cell? at h0
    split at h0
    · split at h0
      · cases h0
      · rename_i h1; simpa using h1
    · cases h0
  refine ⟨a, rfl, hs, fun j u hu => ?_⟩
  have h0 := h j u hu
  rw [add_off a j hs] at h0
  unfold World.cell? at h0
  split at h0
  · rename_i c e f hc
    simp only [Option.isSome_none, Bool.false_eq_true, if_false] at h0
    exact ⟨c, e, f, by rw [hx]; exact hc, h0⟩
  · cases h0
theorem reads_nil {S : Asn} : Reads S none 0 [] := Reads.none_of none
section
variable {H : Type} {enc : TypeId × Value → H} {W : World} {base : Nat} {spare : Nat → Bool} {held : Bool} {a : Option Addr} {n c : Nat} {d : DataW H} {p : List MemPlace}
theorem le_m {b : Bool} {m : Nat} (hl : n ≤ c) (hm : m = if b then c else n) : n ≤ m := by rw [hm]; split <;> omega
set_option maxRecDepth 100000 in
theorem arg_texts (h : DataW.Trod enc Tryd.prog W base spare held 59 (.slice a n c) d p) : ∃ xs : List ByteArray, xs.length = n ∧ Reads (just (hp W)) a n (texts xs) ∧ n ≤ c ∧ c ≤ maxLen ∧
    (xs = [] ∨ ∃ sp, d = .slice (xs.map fun s => .lit (.string s.data.toList)) sp) := by
  obtain ⟨fuel, hf⟩ := h
  rcases open_strs Tryd.underlying59 Tryd.underlying9 cells_string hf with ⟨h1, h2⟩ | ⟨a', n', c', m, Sx, h1, _, hl, hm, hmm, h2, h3⟩
  · simp [Value.cells] at h1
    obtain ⟨rfl, rfl, rfl⟩ := h1
    exact ⟨[], rfl, reads_nil, Nat.le_refl _, Nat.zero_le _, .inl rfl⟩
  · simp [Value.cells] at h1
    obtain ⟨rfl, rfl, rfl⟩ := h1
    have hlm := le_m hl hmm
    refine ⟨(List.range n).map Sx, by simp, reads_of_cells (by simp [texts]) fun i v hv => ?_, hl, hm, .inr ⟨_, by injection h2 with h2 _; rw [h2, List.map_map]; rfl⟩⟩
    simp only [texts, List.map_map, List.getElem?_map] at hv
    by_cases hi : i < n
    · rw [List.getElem?_range hi] at hv
      simp at hv
      rw [← hv]
      exact (h3 i (by omega)).1
    · rw [List.getElem?_eq_none (by simpa using hi)] at hv; cases hv
abbrev bools (l : List Bool) : List Value := l.map Value.bool
set_option maxRecDepth 100000 in
theorem cells_bool : Tryd.prog.cellsOf 4 = 1 := by kernel_rfl
set_option maxRecDepth 100000 in
theorem arg_bools (h : DataW.Trod enc Tryd.prog W base (fun _ => true) held 23 (.slice a n c) d p) : ∃ xs : List Bool, xs.length = n ∧ Reads (just (hp W)) a n (bools xs) ∧ n ≤ c ∧ c ≤ maxLen := by
  obtain ⟨fuel, hf⟩ := h
  rcases open_bools Tryd.underlying23 Tryd.underlying4 cells_bool hf with ⟨h1, h2⟩ | ⟨a', n', c', Sx, h1, _, hl, hm, h2, h3⟩
  · simp [Value.cells] at h1
    obtain ⟨rfl, rfl, rfl⟩ := h1
    exact ⟨[], rfl, reads_nil, Nat.le_refl _, Nat.zero_le _⟩
  · simp [Value.cells] at h1
    obtain ⟨rfl, rfl, rfl⟩ := h1
    refine ⟨(List.range n).map Sx, by simp, reads_of_cells (by simp [bools]) fun i v hv => ?_, hl, hm⟩
    simp only [bools, List.map_map, List.getElem?_map] at hv
    by_cases hi : i < n
    · rw [List.getElem?_range hi] at hv
      simp at hv
      rw [← hv]
      exact h3 i (by omega)
    · rw [List.getElem?_eq_none (by simpa using hi)] at hv; cases hv
theorem reads_bool {w w0 : World} {S : Asn} {B : Option Addr} {n : Nat} {l : List Bool} (m : Mod w w0 S) (r : Reads S B n (bools l)) (hn : 0 < n) :
    ∃ b o, B = some ⟨b, o, none⟩ ∧ ∀ j (h : j < l.length), w.cell? ⟨b, o + j, none⟩ = some (.bool l[j]) := by
  obtain ⟨ad, ha, hs, hc⟩ := reads_cell m r hn
  obtain ⟨b, o, sp⟩ := ad
  simp only at hs
  subst hs
  exact ⟨b, o, ha, fun j h => hc j _ (by simp [bools, h])⟩
abbrev u16s (l : List Nat) : List Value := l.map fun x : Nat => Value.int .u16 (x : Int)
/-- A row of integers that came in. -/
theorem arg_ints {t e : TypeId} {k : IntKind} (ht : Tryd.prog.underlying t = some (.slice e)) (he : Tryd.prog.underlying e = some (.int k)) (hc : Tryd.prog.cellsOf e = 1) (h : DataW.Trod enc Tryd.prog W base (fun _ => true) held t (.slice a n c) d p) :
    ∃ xs : List Int, xs.length = n ∧ Reads (just (hp W)) a n (xs.map (Value.int k)) ∧ (∀ x ∈ xs, (Lit.int k x).wf = true) ∧ n ≤ c ∧ c ≤ maxLen := by
  obtain ⟨fuel, hf⟩ := h
  rcases open_ints ht he hc hf with ⟨h1, h2⟩ | ⟨a', n', c', zs, h1, _, hl, hm, hz, h2, h3, h4⟩
  · simp [Value.cells] at h1
    obtain ⟨rfl, rfl, rfl⟩ := h1
    exact ⟨[], rfl, reads_nil, by simp, Nat.le_refl _, Nat.zero_le _⟩
  · simp [Value.cells] at h1
    obtain ⟨rfl, rfl, rfl⟩ := h1
    simp only [if_true] at hz
    refine ⟨zs.take n, by rw [List.length_take]; omega, reads_of_cells (by rw [List.length_map, List.length_take]; omega) fun i v hv => ?_, fun x hx => h4 x (List.mem_of_mem_take hx), hl, hm⟩
    simp only [List.getElem?_map, List.getElem?_take] at hv
    split at hv
    · rw [h3 i (by omega)]
      cases hz2 : zs[i]? with
      | none => rw [hz2] at hv; cases hv
      | some z =>
        rw [hz2] at hv
        simp only [Option.map_some, Option.some.injEq] at hv
        rw [← hv, List.getD_eq_getElem?_getD, hz2]; rfl
    · cases hv
theorem nats_u16 {xs : List Int} (h : ∀ x ∈ xs, (Lit.int .u16 x).wf = true) : ∃ ys : List Nat, xs.map (Value.int .u16) = u16s ys ∧ ys.length = xs.length ∧ ∀ y ∈ ys, y < 65536 := by
  induction xs with
  | nil => exact ⟨[], rfl, rfl, by simp⟩
  | cons x xs ih =>
    obtain ⟨ys, h1, h2, h3⟩ := ih fun y hy => h y (List.mem_cons_of_mem _ hy)
    obtain ⟨y, rfl, hy⟩ := wf_u16 (h x (List.mem_cons_self ..))
    exact ⟨y :: ys, by simp only [List.map_cons, h1, u16s], by simp [h2], fun z hz => (List.mem_cons.1 hz).elim (fun e => by rw [e]; exact hy) (h3 z)⟩
theorem nats_u8 {xs : List Int} (h : ∀ x ∈ xs, (Lit.int .u8 x).wf = true) : ∃ ys : List UInt8, xs.map (Value.int .u8) = u8s ys ∧ ys.length = xs.length := by
  induction xs with
  | nil => exact ⟨[], rfl, rfl⟩
  | cons x xs ih =>
    obtain ⟨ys, h1, h2⟩ := ih fun y hy => h y (List.mem_cons_of_mem _ hy)
    obtain ⟨y, rfl, hy⟩ := wf_u8 (h x (List.mem_cons_self ..))
    exact ⟨UInt8.ofNat y :: ys, by simp [h1, u8s, Nat.mod_eq_of_lt hy], by simp [h2]⟩
theorem arg_u16s (h : DataW.Trod enc Tryd.prog W base (fun _ => true) held 37 (.slice a n c) d p) : ∃ xs : List Nat, xs.length = n ∧ Reads (just (hp W)) a n (u16s xs) ∧ (∀ x ∈ xs, x < 65536) ∧ n ≤ c ∧ c ≤ maxLen := by
  obtain ⟨xs, h1, h2, h3, h4, h5⟩ := arg_ints Tryd.underlying37 Tryd.underlying38 cells_u16 h
  obtain ⟨ys, e1, e2, e3⟩ := nats_u16 h3
  exact ⟨ys, e2.trans h1, e1 ▸ h2, e3, h4, h5⟩
set_option maxRecDepth 100000 in
theorem cells_u8 : Tryd.prog.cellsOf 5 = 1 := by kernel_rfl
theorem arg_bytes (h : DataW.Trod enc Tryd.prog W base (fun _ => true) held 35 (.slice a n c) d p) : ∃ xs : List UInt8, xs.length = n ∧ Reads (just (hp W)) a n (u8s xs) ∧ n ≤ c ∧ c ≤ maxLen := by
  obtain ⟨xs, h1, h2, h3, h4, h5⟩ := arg_ints Tryd.underlying35 Tryd.underlying5 cells_u8 h
  obtain ⟨ys, e1, e2⟩ := nats_u8 h3
  exact ⟨ys, e2.trans h1, e1 ▸ h2, h4, h5⟩
theorem sized_texts {ts : List TypeId} {ds : List (DataW H)} (h : (DataW.weightsEach Tryd.prog ts ds).all (· ≤ reachBytes) = true) {j : Nat} {xs : List ByteArray} (ht : ts[j]? = some 59) {d : DataW H} (hd : ds[j]? = some d)
    (hx : xs = [] ∨ ∃ sp, d = .slice (xs.map fun s => .lit (.string s.data.toList)) sp) : ∀ s ∈ xs, s.size ≤ reachBytes := by
  intro s hs
  rcases hx with rfl | ⟨sp, rfl⟩
  · cases hs
  have h1 := List.all_eq_true.1 h _ (DataW.weights_mem_each ht hd s.data.toList.length (by
    simp only [DataW.weights, Tryd.underlying59]
    refine List.mem_cons_of_mem _ (List.mem_append_left _ ?_)
    clear hd
    induction xs with
    | nil => cases hs
    | cons x xs ih =>
      simp only [List.map_cons, DataW.weightsAll, List.mem_append]
      rcases List.mem_cons.1 hs with rfl | hs
      · left; simp [DataW.weights]
      · exact .inr (ih hs)))
  rw [size_toList] at h1
  exact of_decide_eq_true h1
set_option maxRecDepth 100000 in
theorem bytes_string : Tryd.prog.bytesOf 9 = 16 := by kernel_rfl
theorem many_texts {ts : List TypeId} {ds : List (DataW H)} (h : (DataW.weightsEach Tryd.prog ts ds).all (· ≤ reachBytes) = true) {j : Nat} {xs : List ByteArray} (hn : xs.length = n) (ht : ts[j]? = some 59) {d : DataW H} (hd : ds[j]? = some d)
    (hx : xs = [] ∨ ∃ sp, d = .slice (xs.map fun s => .lit (.string s.data.toList)) sp) : n ≤ 4611686018427387903 := by
  rcases hx with rfl | ⟨sp, rfl⟩
  · rw [← hn]; exact Nat.zero_le _
  · have h1 := sized_slice h ht hd Tryd.underlying59
    rw [List.length_map, hn, bytes_string] at h1
    unfold reachBytes at h1; omega
/-- how many elements a slice that came in has -/
theorem sized_len {ts : List TypeId} {ds : List (DataW H)} (h : (DataW.weightsEach Tryd.prog ts ds).all (· ≤ reachBytes) = true) {j : Nat} {t e : TypeId} {el sp : List (DataW H)} (ht : ts[j]? = some t) (hd : ds[j]? = some (.slice el sp)) (hu : Tryd.prog.underlying t = some (.slice e)) (hb : 0 < Tryd.prog.bytesOf e) : el.length ≤ reachBytes := by
  have := sized_slice h ht hd hu
  exact Nat.le_trans (Nat.le_trans (Nat.le_add_right _ sp.length) (Nat.le_mul_of_pos_right _ hb)) this
end
end Go.Proofs.YtmpgnnjhgjfgaaaDoor
