/- Arguments that are slices, read: plain lemmas.
Acts with a disk (bucketlinelaw05): what a slice of them reads as, the laws' helpers Great and does: contracts over the small separation logic; the conditions are in each theorem.
Acts that came in, read: plain lemmas. -/
import Derived.Test.YtmhlebpchllpbaaGreatDoorNamesG
import Derived.Deep.Strs
import Derived.Deep.Grids
import Derived.Deep.Matrix
import Derived.Deep.LoopGhost
import Derived.Deep.QuietTactic
import Derived.BigQuiet
namespace Go.Proofs.YtmhlebpchllpbaaGreatDoor
open Go.ChangeShapes Go.WideShapes Go.ChangeAt Go.RowKit Go.Sl Go.Deep
theorem reads_of_cells {W : World} {a : Addr} {n : Nat} {xs : List Value} (hl : xs.length = n) (h : ∀ i v, xs[i]? = some v → W.cell? (a.add i) = some v) : Reads (just (hp W)) (some a) n xs := by
  refine ⟨fun _ _ => hl, fun x hx hn => ?_⟩
  have hx : x = hp W := hx
  have hs : a.spot = none := by
    have h0 := h 0 xs[0] (by simp)
    rw [show a.add 0 = a from rfl] at h0
    unfold World.cell? at h0
    split at h0
    · split at h0
      · cases h0
      · rename_i h1; simpa using h1
    · cases h0
  refine ⟨a, rfl, hs, fun j u hu => ?_⟩
  have h0 := h j u hu
  rw [add_off a j hs] at h0
  unfold World.cell? at h0
  split at h0
  · rename_i c e f hc
    simp only [Option.isSome_none, Bool.false_eq_true, if_false] at h0
    exact ⟨c, e, f, by rw [hx]; exact hc, h0⟩
  · cases h0
theorem reads_nil {S : Asn} : Reads S none 0 [] := Reads.none_of none
section
variable {H : Type} {enc : TypeId × Value → H} {W : World} {base : Nat} {spare : Nat → Bool} {held : Bool} {a : Option Addr} {n c : Nat} {d : DataW H} {p : List MemPlace}
theorem le_m {b : Bool} {m : Nat} (hl : n ≤ c) (hm : m = if b then c else n) : n ≤ m := by rw [hm]; split <;> omega
set_option maxRecDepth 100000 in
theorem arg_texts (h : DataW.Trod enc Tryz.prog W base spare held 53 (.slice a n c) d p) : ∃ xs : List ByteArray, xs.length = n ∧ Reads (just (hp W)) a n (texts xs) ∧ n ≤ c ∧ c ≤ maxLen ∧
    (xs = [] ∨ ∃ sp, d = .slice (xs.map fun s => .lit (.string s.data.toList)) sp) := by
  obtain ⟨fuel, hf⟩ := h
  rcases open_strs Tryz.underlying53 Tryz.underlying9 cells_string hf with ⟨h1, h2⟩ | ⟨a', n', c', m, Sx, h1, _, hl, hm, hmm, h2, h3⟩
  · simp [Value.cells] at h1
    obtain ⟨rfl, rfl, rfl⟩ := h1
    exact ⟨[], rfl, reads_nil, Nat.le_refl _, Nat.zero_le _, .inl rfl⟩
  · simp [Value.cells] at h1
    obtain ⟨rfl, rfl, rfl⟩ := h1
    have hlm := le_m hl hmm
    refine ⟨(List.range n).map Sx, by simp, reads_of_cells (by simp [texts]) fun i v hv => ?_, hl, hm, .inr ⟨_, by injection h2 with h2 _; rw [h2, List.map_map]; rfl⟩⟩
    simp only [texts, List.map_map, List.getElem?_map] at hv
    by_cases hi : i < n
    · rw [List.getElem?_range hi] at hv
      simp at hv
      rw [← hv]
      exact (h3 i (by omega)).1
    · rw [List.getElem?_eq_none (by simpa using hi)] at hv; cases hv
abbrev bools (l : List Bool) : List Value := l.map Value.bool
set_option maxRecDepth 100000 in
theorem cells_bool : Tryz.prog.cellsOf 4 = 1 := by kernel_rfl
theorem reads_bool {w w0 : World} {S : Asn} {B : Option Addr} {n : Nat} {l : List Bool} (m : Mod w w0 S) (r : Reads S B n (bools l)) (hn : 0 < n) :
    ∃ b o, B = some ⟨b, o, none⟩ ∧ ∀ j (h : j < l.length), w.cell? ⟨b, o + j, none⟩ = some (.bool l[j]) := by
  obtain ⟨ad, ha, hs, hc⟩ := reads_cell m r hn
  obtain ⟨b, o, sp⟩ := ad
  simp only at hs
  subst hs
  exact ⟨b, o, ha, fun j h => hc j _ (by simp [bools, h])⟩
abbrev u16s (l : List Nat) : List Value := l.map fun x : Nat => Value.int .u16 (x : Int)
/-- A row of integers that came in. -/
theorem arg_ints {t e : TypeId} {k : IntKind} (ht : Tryz.prog.underlying t = some (.slice e)) (he : Tryz.prog.underlying e = some (.int k)) (hc : Tryz.prog.cellsOf e = 1) (h : DataW.Trod enc Tryz.prog W base (fun _ => true) held t (.slice a n c) d p) :
    ∃ xs : List Int, xs.length = n ∧ Reads (just (hp W)) a n (xs.map (Value.int k)) ∧ (∀ x ∈ xs, (Lit.int k x).wf = true) ∧ n ≤ c ∧ c ≤ maxLen := by
  obtain ⟨fuel, hf⟩ := h
  rcases open_ints ht he hc hf with ⟨h1, h2⟩ | ⟨a', n', c', zs, h1, _, hl, hm, hz, h2, h3, h4⟩
  · simp [Value.cells] at h1
    obtain ⟨rfl, rfl, rfl⟩ := h1
    exact ⟨[], rfl, reads_nil, by simp, Nat.le_refl _, Nat.zero_le _⟩
  · simp [Value.cells] at h1
    obtain ⟨rfl, rfl, rfl⟩ := h1
    simp only [if_true] at hz
    refine ⟨zs.take n, by rw [List.length_take]; omega, reads_of_cells (by rw [List.length_map, List.length_take]; omega) fun i v hv => ?_, fun x hx => h4 x (List.mem_of_mem_take hx), hl, hm⟩
    simp only [List.getElem?_map, List.getElem?_take] at hv
    split at hv
    · rw [h3 i (by omega)]
      cases hz2 : zs[i]? with
      | none => rw [hz2] at hv; cases hv
      | some z =>
        rw [hz2] at hv
        simp only [Option.map_some, Option.some.injEq] at hv
        rw [← hv, List.getD_eq_getElem?_getD, hz2]; rfl
    · cases hv
theorem nats_u16 {xs : List Int} (h : ∀ x ∈ xs, (Lit.int .u16 x).wf = true) : ∃ ys : List Nat, xs.map (Value.int .u16) = u16s ys ∧ ys.length = xs.length ∧ ∀ y ∈ ys, y < 65536 := by
  induction xs with
  | nil => exact ⟨[], rfl, rfl, by simp⟩
  | cons x xs ih =>
    obtain ⟨ys, h1, h2, h3⟩ := ih fun y hy => h y (List.mem_cons_of_mem _ hy)
    obtain ⟨y, rfl, hy⟩ := wf_u16 (h x (List.mem_cons_self ..))
    exact ⟨y :: ys, by simp only [List.map_cons, h1, u16s], by simp [h2], fun z hz => (List.mem_cons.1 hz).elim (fun e => by rw [e]; exact hy) (h3 z)⟩
theorem nats_u8 {xs : List Int} (h : ∀ x ∈ xs, (Lit.int .u8 x).wf = true) : ∃ ys : List UInt8, xs.map (Value.int .u8) = u8s ys ∧ ys.length = xs.length := by
  induction xs with
  | nil => exact ⟨[], rfl, rfl⟩
  | cons x xs ih =>
    obtain ⟨ys, h1, h2⟩ := ih fun y hy => h y (List.mem_cons_of_mem _ hy)
    obtain ⟨y, rfl, hy⟩ := wf_u8 (h x (List.mem_cons_self ..))
    exact ⟨UInt8.ofNat y :: ys, by simp [h1, u8s, Nat.mod_eq_of_lt hy], by simp [h2]⟩
set_option maxRecDepth 100000 in
theorem cells_u8 : Tryz.prog.cellsOf 5 = 1 := by kernel_rfl
theorem arg_bytes (h : DataW.Trod enc Tryz.prog W base (fun _ => true) held 63 (.slice a n c) d p) : ∃ xs : List UInt8, xs.length = n ∧ Reads (just (hp W)) a n (u8s xs) ∧ n ≤ c ∧ c ≤ maxLen := by
  obtain ⟨xs, h1, h2, h3, h4, h5⟩ := arg_ints Tryz.underlying63 Tryz.underlying5 cells_u8 h
  obtain ⟨ys, e1, e2⟩ := nats_u8 h3
  exact ⟨ys, e2.trans h1, e1 ▸ h2, h4, h5⟩
theorem sized_texts {ts : List TypeId} {ds : List (DataW H)} (h : (DataW.weightsEach Tryz.prog ts ds).all (· ≤ reachBytes) = true) {j : Nat} {xs : List ByteArray} (ht : ts[j]? = some 53) {d : DataW H} (hd : ds[j]? = some d)
    (hx : xs = [] ∨ ∃ sp, d = .slice (xs.map fun s => .lit (.string s.data.toList)) sp) : ∀ s ∈ xs, s.size ≤ reachBytes := by
  intro s hs
  rcases hx with rfl | ⟨sp, rfl⟩
  · cases hs
  have h1 := List.all_eq_true.1 h _ (DataW.weights_mem_each ht hd s.data.toList.length (by
    simp only [DataW.weights, Tryz.underlying53]
    refine List.mem_cons_of_mem _ (List.mem_append_left _ ?_)
    clear hd
    induction xs with
    | nil => cases hs
    | cons x xs ih =>
      simp only [List.map_cons, DataW.weightsAll, List.mem_append]
      rcases List.mem_cons.1 hs with rfl | hs
      · left; simp [DataW.weights]
      · exact .inr (ih hs)))
  rw [size_toList] at h1
  exact of_decide_eq_true h1
set_option maxRecDepth 100000 in
theorem bytes_string : Tryz.prog.bytesOf 9 = 16 := by kernel_rfl
theorem many_texts {ts : List TypeId} {ds : List (DataW H)} (h : (DataW.weightsEach Tryz.prog ts ds).all (· ≤ reachBytes) = true) {j : Nat} {xs : List ByteArray} (hn : xs.length = n) (ht : ts[j]? = some 53) {d : DataW H} (hd : ds[j]? = some d)
    (hx : xs = [] ∨ ∃ sp, d = .slice (xs.map fun s => .lit (.string s.data.toList)) sp) : n ≤ 4611686018427387903 := by
  rcases hx with rfl | ⟨sp, rfl⟩
  · rw [← hn]; exact Nat.zero_le _
  · have h1 := sized_slice h ht hd Tryz.underlying53
    rw [List.length_map, hn, bytes_string] at h1
    unfold reachBytes at h1; omega
/-- how many elements a slice that came in has -/
theorem sized_len {ts : List TypeId} {ds : List (DataW H)} (h : (DataW.weightsEach Tryz.prog ts ds).all (· ≤ reachBytes) = true) {j : Nat} {t e : TypeId} {el sp : List (DataW H)} (ht : ts[j]? = some t) (hd : ds[j]? = some (.slice el sp)) (hu : Tryz.prog.underlying t = some (.slice e)) (hb : 0 < Tryz.prog.bytesOf e) : el.length ≤ reachBytes := by
  have := sized_slice h ht hd hu
  exact Nat.le_trans (Nat.le_trans (Nat.le_add_right _ sp.length) (Nat.le_mul_of_pos_right _ hb)) this
end
end Go.Proofs.YtmhlebpchllpbaaGreatDoor
namespace Go.Proofs.YtmhlebpchllpbaaGreatDoor
open Go.RowKit Go.Sl
attribute [local go_sem] cell_of frozen_of zero_names
structure ActV where
  kind : Nat
  name : ByteArray
  to : ByteArray
  bA : Option Addr
  bc : Nat
  b : List UInt8
  off : Int
  n : Int
  names : Bool
def ActV.cells (x : ActV) : List Value := [.int .u8 (x.kind : Int), .string x.name, .string x.to, .slice x.bA x.b.length x.bc, .int .i64 x.off, .int .i64 x.n, .bool x.names]
def ActV.weight (x : ActV) : Nat := 1 + x.b.length + x.name.size + x.to.size
def weight : List ActV → Nat
  | [] => 0
  | x :: l => x.weight + weight l
theorem weight_append (a b : List ActV) : weight (a ++ b) = weight a + weight b := by
  induction a with
  | nil => simp [weight]
  | cons x a ih => simp only [List.cons_append, weight, ih]; omega
theorem weight_take_succ (l : List ActV) (k : Nat) (h : k < l.length) : weight (l.take (k + 1)) = weight (l.take k) + l[k].weight := by
  rw [List.take_succ_eq_append_getElem h, weight_append]; simp [weight]
theorem weight_take_le (l : List ActV) (k : Nat) : weight (l.take k) ≤ weight l := by
  have := weight_append (l.take k) (l.drop k)
  rw [List.take_append_drop] at this; omega
/-- What is read stays read, in more. -/
theorem reads_lift {S' S : Asn} {A : Option Addr} {n : Nat} {xs : List Value} (s : Sub S' S) (r : Reads S A n xs) : Reads S' A n xs := by
  have key : ∀ h, S'.says h → ∃ a, S.says a ∧ ∀ k o, a k = some o → h k = some o := by
    intro h hh
    obtain ⟨a, b, _, hj, ha, _⟩ := s.sub h ⟨h, Hp.none, fun _ => .inr rfl, by funext k; simp [Hp.join, Hp.none], hh, trivial⟩
    exact ⟨a, ha, fun k o hk => by rw [hj]; simp [Hp.join, hk]⟩
  refine ⟨fun h hh => by obtain ⟨a, ha, _⟩ := key h hh; exact r.len a ha, fun h hh hn => ?_⟩
  obtain ⟨a, ha, hk⟩ := key h hh
  obtain ⟨ad, h1, h2, h3⟩ := r.cell a ha hn
  exact ⟨ad, h1, h2, fun j u hu => by obtain ⟨c, e, f, h4, h5⟩ := h3 j u hu; exact ⟨c, e, f, hk _ _ h4, h5⟩⟩
structure ReadsActs (S : Asn) (A : Option Addr) (n : Nat) (l : List ActV) : Prop where
  len : l.length = n
  cells : Reads S A (n * 7) (l.flatMap ActV.cells)
  bytes : ∀ x ∈ l, Reads S x.bA x.b.length (u8s x.b)
  kinds : ∀ x ∈ l, x.kind < 256
  small : ∀ x ∈ l, x.b.length ≤ 140737488355328 ∧ x.name.size ≤ 140737488355328 ∧ x.to.size ≤ 140737488355328
theorem ReadsActs.lift {S' S : Asn} {A : Option Addr} {n : Nat} {l : List ActV} (s : Sub S' S) (r : ReadsActs S A n l) : ReadsActs S' A n l :=
  ⟨r.len, reads_lift s r.cells, fun x hx => reads_lift s (r.bytes x hx), r.kinds, r.small⟩
theorem act_cell : ∀ (l : List ActV) (k j : Nat) (v : Value) (h : k < l.length), l[k].cells[j]? = some v → (l.flatMap ActV.cells)[k * 7 + j]? = some v
  | [], k, _, _, h, _ => by simp at h
  | x :: l, 0, j, v, _, hv => by
    simp only [List.getElem_cons_zero] at hv
    rw [List.flatMap_cons, Nat.zero_mul, Nat.zero_add, List.getElem?_append_left (List.getElem?_eq_some_iff.1 hv).1]
    exact hv
  | x :: l, k + 1, j, v, h, hv => by
    have hl : x.cells.length = 7 := rfl
    rw [List.flatMap_cons, List.getElem?_append_right (by rw [hl]; omega), hl, show (k + 1) * 7 + j - 7 = k * 7 + j by omega]
    exact act_cell l k j v (by simpa using h) (by simpa using hv)
theorem reads_act {w w0 : World} {S : Asn} {A : Option Addr} {n : Nat} {l : List ActV} (m : Mod w w0 S) (r : ReadsActs S A n l) {k : Nat} (hk : k < n) : ∃ b o, A = some ⟨b, o, none⟩ ∧ ∃ h : k < l.length, w.cell? ⟨b, o + k * 7, none⟩ = some (.int .u8 (l[k].kind : Int)) ∧
    w.cell? ⟨b, o + k * 7 + 1, none⟩ = some (.string l[k].name) ∧ w.cell? ⟨b, o + k * 7 + 2, none⟩ = some (.string l[k].to) ∧ w.cell? ⟨b, o + k * 7 + 3, none⟩ = some (.slice l[k].bA l[k].b.length l[k].bc) ∧ w.cell? ⟨b, o + k * 7 + 4, none⟩ = some (.int .i64 l[k].off) ∧ w.cell? ⟨b, o + k * 7 + 5, none⟩ = some (.int .i64 l[k].n) ∧ w.cell? ⟨b, o + k * 7 + 6, none⟩ = some (.bool l[k].names) := by
  obtain ⟨ad, ha, hs, hc⟩ := reads_cell m r.cells (by omega)
  obtain ⟨b, o, sp⟩ := ad
  simp only at hs
  subst hs
  have hkl : k < l.length := by rw [r.len]; exact hk
  have key : ∀ j v, l[k].cells[j]? = some v → w.cell? ⟨b, o + k * 7 + j, none⟩ = some v := fun j v hv => by
    have := hc (k * 7 + j) v (act_cell l k j v hkl hv)
    rw [← Nat.add_assoc] at this
    exact this
  exact ⟨b, o, ha, hkl, key 0 _ rfl, key 1 _ rfl, key 2 _ rfl, key 3 _ rfl, key 4 _ rfl, key 5 _ rfl, key 6 _ rfl⟩
end Go.Proofs.YtmhlebpchllpbaaGreatDoor
namespace Go.Proofs.YtmhlebpchllpbaaGreatDoor
open Go.ChangeShapes Go.WideShapes Go.ChangeAt Go.RowKit Go.Sl Go.Deep
theorem flat_cell : ∀ (l : List ActV) (i : Nat) (v : Value), (l.flatMap ActV.cells)[i]? = some v → ∃ h : i / 7 < l.length, l[i / 7].cells[i % 7]? = some v
  | [], i, _, h => by simp at h
  | x :: l, i, v, h => by
    have hl : x.cells.length = 7 := rfl
    rw [List.flatMap_cons] at h
    by_cases hi : i < 7
    · rw [List.getElem?_append_left (by rw [hl]; exact hi)] at h
      have e1 : i / 7 = 0 := by omega
      have e2 : i % 7 = i := by omega
      refine ⟨by rw [e1]; simp, ?_⟩
      simp only [e1, e2, List.getElem_cons_zero]
      exact h
    · rw [List.getElem?_append_right (by rw [hl]; omega), hl] at h
      obtain ⟨h1, h2⟩ := flat_cell l (i - 7) v h
      have e1 : i / 7 = (i - 7) / 7 + 1 := by omega
      have e2 : i % 7 = (i - 7) % 7 := by omega
      refine ⟨by rw [e1, List.length_cons]; omega, ?_⟩
      simp only [e1, e2, List.getElem_cons_succ]
      exact h2
theorem weights_elem {H : Type} {P : Program} {e : TypeId} {x : DataW H} {k : Nat} : ∀ {elems : List (DataW H)}, x ∈ elems → k ∈ x.weights P e → k ∈ DataW.weightsAll P e elems
  | [], h, _ => by cases h
  | y :: elems, h, hk => by
    simp only [DataW.weightsAll, List.mem_append]
    rcases List.mem_cons.1 h with rfl | h
    · exact .inl hk
    · exact .inr (weights_elem h hk)
set_option maxRecDepth 100000 in
theorem cells_bytes : Tryz.prog.cellsOf 63 = 1 := by kernel_rfl
set_option maxRecDepth 100000 in
theorem cells_int : Tryz.prog.cellsOf 3 = 1 := by kernel_rfl
set_option maxRecDepth 100000 in
theorem bytes_u8 : Tryz.prog.bytesOf 5 = 1 := by kernel_rfl
section
variable {H : Type} {enc : TypeId × Value → H} {W : World} {base : Nat} {held : Bool}
/-- A byte slice's cell. -/
theorem bytes_cell {fuel : Nat} {v : Value} {x : DataW H × List MemPlace} (h : DataW.trod enc Tryz.prog W base (fun _ => true) held fuel 63 [v] = some x) :
    ∃ (a : Option Addr) (c : Nat) (b : List UInt8), v = .slice a b.length c ∧ Reads (just (hp W)) a b.length (u8s b) ∧ (b = [] ∨ ∃ el sp, x.1 = .slice el sp ∧ el.length = b.length) := by
  rcases open_ints Tryz.underlying63 Tryz.underlying5 cells_u8 h with ⟨h1, h2⟩ | ⟨a', n', c', zs, h1, _, hl, hm, hz, h2, h3, h4⟩
  · simp at h1
    exact ⟨none, 0, [], h1, reads_nil, .inl rfl⟩
  · simp at h1
    simp only [if_true] at hz
    obtain ⟨ys, e1, e2⟩ := nats_u8 (xs := zs.take n') fun y hy => h4 y (List.mem_of_mem_take hy)
    have hlen : ys.length = n' := by rw [e2, List.length_take]; omega
    refine ⟨some a', c', ys, by rw [hlen]; exact h1, ?_, .inr ⟨_, _, by rw [h2], by rw [hlen]; simp [lits]; omega⟩⟩
    rw [← e1, hlen]
    refine reads_of_cells (by rw [List.length_map, List.length_take]; omega) fun i v hv => ?_
    simp only [List.getElem?_map, List.getElem?_take] at hv
    split at hv
    · rw [h3 i (by omega)]
      cases hz2 : zs[i]? with
      | none => rw [hz2] at hv; cases hv
      | some z =>
        rw [hz2] at hv
        simp only [Option.map_some, Option.some.injEq] at hv
        rw [← hv, List.getD_eq_getElem?_getD, hz2]; rfl
    · cases hv
structure ActAt (W : World) (H : Type) (ad : Addr) (i : Nat) (d : DataW H) (x : ActV) : Prop where
  cell : ∀ j v, x.cells[j]? = some v → W.cell? (ad.add (i * 7 + j)) = some v
  bytes : Reads (just (hp W)) x.bA x.b.length (u8s x.b)
  kind : x.kind < 256
  data : ∃ d0 d3 d4 d5 d6, d = .agg [d0, .lit (.string x.name.data.toList), .lit (.string x.to.data.toList), d3, d4, d5, d6] ∧ (x.b = [] ∨ ∃ el sp, d3 = .slice el sp ∧ el.length = x.b.length)
end
end Go.Proofs.YtmhlebpchllpbaaGreatDoor
