/- Acts with a journal (bucketlinelaw06): what a slice of them reads as, the law's helper great, and that such a slice that came in reads so: contracts and plain lemmas; the conditions are in each theorem. -/
import Derived.Test.YtcakdaadbpimaaaGreatDoorArgActsI
namespace Go.Proofs.YtcakdaadbpimaaaGreatDoor
open Go.ChangeShapes Go.WideShapes Go.ChangeAt Go.RowKit Go.Sl Go.Deep
attribute [local go_sem] cell_of frozen_of zero_names
structure Act6V where
  kind : Nat
  bA : Option Addr
  bc : Nat
  b : List UInt8
  keep : Nat
  names : Bool
def Act6V.cells (x : Act6V) : List Value := [.int .u8 (x.kind : Int), .slice x.bA x.b.length x.bc, .int .u16 (x.keep : Int), .bool x.names]
def Act6V.weight (x : Act6V) : Nat := 1 + x.b.length
def weight6 : List Act6V → Nat
  | [] => 0
  | x :: l => x.weight + weight6 l
theorem weight6_append (a b : List Act6V) : weight6 (a ++ b) = weight6 a + weight6 b := by
  induction a with
  | nil => simp [weight6]
  | cons x a ih => simp only [List.cons_append, weight6, ih]; omega
theorem weight6_take_succ (l : List Act6V) (k : Nat) (h : k < l.length) : weight6 (l.take (k + 1)) = weight6 (l.take k) + l[k].weight := by
  rw [List.take_succ_eq_append_getElem h, weight6_append]; simp [weight6]
theorem weight6_take_le (l : List Act6V) (k : Nat) : weight6 (l.take k) ≤ weight6 l := by
  have := weight6_append (l.take k) (l.drop k)
  rw [List.take_append_drop] at this; omega
structure ReadsActs6 (S : Asn) (A : Option Addr) (n : Nat) (l : List Act6V) : Prop where
  len : l.length = n
  cells : Reads S A (n * 4) (l.flatMap Act6V.cells)
  bytes : ∀ x ∈ l, Reads S x.bA x.b.length (u8s x.b)
  kinds : ∀ x ∈ l, x.kind < 256
  small : ∀ x ∈ l, x.b.length ≤ 140737488355328 ∧ x.keep < 65536 ∧ x.b.length ≤ x.bc
theorem ReadsActs6.lift {S' S : Asn} {A : Option Addr} {n : Nat} {l : List Act6V} (s : Sub S' S) (r : ReadsActs6 S A n l) : ReadsActs6 S' A n l :=
  ⟨r.len, reads_lift s r.cells, fun x hx => reads_lift s (r.bytes x hx), r.kinds, r.small⟩
theorem act6_cell : ∀ (l : List Act6V) (k j : Nat) (v : Value) (h : k < l.length), l[k].cells[j]? = some v → (l.flatMap Act6V.cells)[k * 4 + j]? = some v
  | [], k, _, _, h, _ => by simp at h
  | x :: l, 0, j, v, _, hv => by
    simp only [List.getElem_cons_zero] at hv
    rw [List.flatMap_cons, Nat.zero_mul, Nat.zero_add, List.getElem?_append_left (List.getElem?_eq_some_iff.1 hv).1]
    exact hv
  | x :: l, k + 1, j, v, h, hv => by
    have hl : x.cells.length = 4 := rfl
    rw [List.flatMap_cons, List.getElem?_append_right (by rw [hl]; omega), hl, show (k + 1) * 4 + j - 4 = k * 4 + j by omega]
    exact act6_cell l k j v (by simpa using h) (by simpa using hv)
theorem act6_at_cells {S : Asn} {b o n : Nat} {l : List Act6V} (r : ReadsActs6 S (some ⟨b, o, none⟩) n l) {k : Nat} (hk : k < l.length) : CellAt S b (o + k * 4) (.int .u8 (l[k].kind : Int)) ∧ CellAt S b (o + k * 4 + 1) (.slice l[k].bA l[k].b.length l[k].bc) ∧ CellAt S b (o + k * 4 + 2) (.int .u16 (l[k].keep : Int)) ∧ CellAt S b (o + k * 4 + 3) (.bool l[k].names) := by
  have hp : 0 < n * 4 := by have := r.len; omega
  have f : ∀ j v, l[k].cells[j]? = some v → CellAt S b (o + k * 4 + j) v := fun j v hv => by
    rw [Nat.add_assoc]
    exact reads_at_cell r.cells hp _ (act6_cell l k j v hk hv)
  exact ⟨f 0 _ rfl, f 1 _ rfl, f 2 _ rfl, f 3 _ rfl⟩
theorem acts6_some {w w0 : World} {S : Asn} {A : Option Addr} {n : Nat} {l : List Act6V} (m : Mod w w0 S) (r : ReadsActs6 S A n l) {k : Nat} (hk : k < n) : ∃ b o, A = some ⟨b, o, none⟩ := by
  obtain ⟨ad, ha, hs, _⟩ := reads_cell m r.cells (by omega)
  obtain ⟨b, o, sp⟩ := ad
  simp only at hs
  subst hs
  exact ⟨b, o, ha⟩
attribute [local go_sem] cellAt_of
set_option maxHeartbeats 2000000 in
theorem great06_spec (A : Option Addr) (n c : Nat) (l : List Act6V) (w w0 : World) (S : Asn) (m : Mod w w0 S) (r : ReadsActs6 S A n l) (hn : n ≤ 9223372036854775807) :
    Calls Tryz.prog 36 #[.slice A n c] w fun e w' => e = .returned (.bool (decide (40000 < weight6 l ∨ 100 < n))) ∧ Mod w' w0 S := by
  go_enter Tryz.func36, Tryz.ntmps36
  go_wp2
  go_loopg [3, 4] n (fun gk t i wr => ∃ k : Nat, k ≤ n ∧ gk = n - k ∧ i = .int .i64 (k : Int) ∧ t = .int .i64 ((weight6 (l.take k) : Nat) : Int) ∧ weight6 (l.take k) ≤ 40000 ∧ Mod wr w0 S)
  case atStart => exact ⟨0, Nat.zero_le _, rfl, rfl, rfl, Nat.zero_le _, m⟩
  case round =>
    obtain ⟨k, hkn, hgk, rfl, rfl, hle, m2⟩ := hrel
    by_cases hlt : k < n
    · obtain ⟨b1, o1, rfl⟩ := acts6_some m2 r hlt
      have hkl : k < l.length := by rw [r.len]; exact hlt
      obtain ⟨_, c1, _, _⟩ := act6_at_cells r hkl
      have hki : (k : Int) < (n : Int) := by omega
      have hs := r.small l[k] (List.getElem_mem hkl)
      have hw := weight6_take_succ l k hkl
      have hwl := weight6_take_le l (k + 1)
      unfold Act6V.weight at hw
      generalize l[k] = x at *
      obtain ⟨hs1, hs2, hs3⟩ := hs
      by_cases hbig : 40000 < weight6 (l.take (k + 1))
      · have hd : decide (40000 < weight6 l ∨ 100 < n) = true := decide_eq_true (.inl (by omega))
        have Hd := Lib.hid hd
        clear hd
        go_wp2
        go_ret
        exact ⟨by rw [Hd.out]; rfl, m2⟩
      · go_wp2
        go_roundg (n - (k + 1))
        case measure => omega
        case rel => exact ⟨k + 1, by omega, rfl, by go_num, by congr 1; omega, by omega, m2⟩
    · have hk2 : k = n := by omega
      subst hk2
      go_wp2
      go_ret
      refine ⟨?_, m2⟩
      rw [show weight6 (l.take k) = weight6 l from by rw [← r.len, List.take_length]] at hle
      have e : decide (40000 < weight6 l ∨ 100 < k) = decide (100 < k) := by simp; omega
      rw [e]
      simp
      omega
theorem flat6_cell : ∀ (l : List Act6V) (i : Nat) (v : Value), (l.flatMap Act6V.cells)[i]? = some v → ∃ h : i / 4 < l.length, l[i / 4].cells[i % 4]? = some v
  | [], i, _, h => by simp at h
  | x :: l, i, v, h => by
    have hl : x.cells.length = 4 := rfl
    rw [List.flatMap_cons] at h
    by_cases hi : i < 4
    · rw [List.getElem?_append_left (by rw [hl]; exact hi)] at h
      have e1 : i / 4 = 0 := by omega
      have e2 : i % 4 = i := by omega
      refine ⟨by rw [e1]; simp, ?_⟩
      simp only [e1, e2, List.getElem_cons_zero]
      exact h
    · rw [List.getElem?_append_right (by rw [hl]; omega), hl] at h
      obtain ⟨h1, h2⟩ := flat6_cell l (i - 4) v h
      have e1 : i / 4 = (i - 4) / 4 + 1 := by omega
      have e2 : i % 4 = (i - 4) % 4 := by omega
      refine ⟨by rw [e1, List.length_cons]; omega, ?_⟩
      simp only [e1, e2, List.getElem_cons_succ]
      exact h2
set_option maxRecDepth 100000 in
theorem cells_act6 : Tryz.prog.cellsOf 77 = 4 := by kernel_rfl
section
variable {H : Type} {enc : TypeId × Value → H} {W : World} {base : Nat} {held : Bool}
theorem bytes_cap {fuel : Nat} {v : Value} {x : DataW H × List MemPlace} {a : Option Addr} {n c : Nat} (h : DataW.trod enc Tryz.prog W base (fun _ => true) held fuel 46 [v] = some x) (hv : v = .slice a n c) : n ≤ c := by
  subst hv
  rcases open_ints Tryz.underlying46 Tryz.underlying5 cells_u8 h with ⟨h1, h2⟩ | ⟨a', n', c', zs, h1, _, hl, _⟩
  · simp at h1
    omega
  · simp at h1
    omega
structure Act6At (W : World) (H : Type) (ad : Addr) (i : Nat) (d : DataW H) (x : Act6V) : Prop where
  cell : ∀ j v, x.cells[j]? = some v → W.cell? (ad.add (i * 4 + j)) = some v
  bytes : Reads (just (hp W)) x.bA x.b.length (u8s x.b)
  kind : x.kind < 256
  keep : x.keep < 65536
  cap : x.b.length ≤ x.bc
  data : ∃ d0 d1 d2 d3, d = .agg [d0, d1, d2, d3] ∧ (x.b = [] ∨ ∃ el sp, d1 = .slice el sp ∧ el.length = x.b.length)
set_option maxRecDepth 100000 in
theorem act6_at {fuel : Nat} {ad : Addr} {i : Nat} {cs : List Value} {x : DataW H × List MemPlace} (h1 : W.cells? base (ad.add (i * 4)) 4 = some cs) (h2 : DataW.trod enc Tryz.prog W base (fun _ => true) held fuel 77 cs = some x) : ∃ y, Act6At W H ad i x.1 y := by
  obtain ⟨_, hlen, hcell⟩ := World.cells?_some h1
  obtain ⟨xs, k, hk, hxy, _, hxl, hf⟩ := DataW.trod_struct Tryz.underlying77 h2
  match xs, hxl, cs, hlen with
  | [y0, y1, y2, y3], _, [v0, v1, v2, v3], _ =>
    have g0 := hf 0 _ rfl
    have g1 := hf 1 _ rfl
    have g2 := hf 2 _ rfl
    have g3 := hf 3 _ rfl
    simp [cells_u8, cells_bytes, cells_u16, cells_bool] at g0 g1 g2 g3
    obtain ⟨n0, e0, x0, w0⟩ := DataW.trod_int Tryz.underlying5 g0
    obtain ⟨a1, c1, b1, e1, r1, x1⟩ := bytes_cell g1
    obtain ⟨n2, e2, x2, w2⟩ := DataW.trod_int Tryz.underlying66 g2
    obtain ⟨b3, e3, x3⟩ := DataW.trod_bool Tryz.underlying4 g3
    have cap1 := bytes_cap g1 e1
    simp at e0 e2 e3
    obtain ⟨k0, rfl, hk0⟩ := wf_u8 w0
    obtain ⟨k2, rfl, hk2⟩ := wf_u16 w2
    subst e0 e1 e2 e3
    refine ⟨⟨k0, a1, c1, b1, k2, b3⟩, ?_, r1, hk0, hk2, cap1, y0.1, y1.1, y2.1, y3.1, ?_, x1⟩
    · intro j v hv
      have hj : j < 4 := (List.getElem?_eq_some_iff.1 hv).1
      have := hcell j hj
      rw [add_add] at this
      rw [this]
      exact hv
    · rw [hxy]; rfl
set_option maxRecDepth 100000 in
theorem arg_acts6 {a : Option Addr} {n c : Nat} {d : DataW H} {p : List MemPlace} (h : DataW.Trod enc Tryz.prog W base (fun _ => true) held 67 (.slice a n c) d p)
    {ts : List TypeId} {ds : List (DataW H)} (hs : (DataW.weightsEach Tryz.prog ts ds).all (· ≤ reachBytes) = true) {j : Nat} (ht : ts[j]? = some 67) (hd : ds[j]? = some d) : ∃ l, ReadsActs6 (just (hp W)) a n l ∧ n ≤ 9223372036854775807 := by
  obtain ⟨fuel, hf⟩ := h
  rcases open_slice Tryz.underlying67 hf with ⟨h1, h2⟩ | ⟨a', n', c', m, k, D, Pl, h1, _, hl, hm, hmm, h2, h3⟩
  · simp [Value.cells] at h1
    obtain ⟨rfl, rfl, rfl⟩ := h1
    exact ⟨[], ⟨rfl, reads_nil, by simp, by simp, by simp⟩, by omega⟩
  · simp [Value.cells] at h1
    obtain ⟨rfl, rfl, rfl⟩ := h1
    have hlm := le_m hl hmm
    rw [cells_act6] at h3
    have each : ∀ i, i < n → ∃ y, Act6At W H a' i (D i) y := fun i hi => by
      obtain ⟨cs, g1, g2⟩ := h3 i (by omega)
      exact act6_at g1 g2
    have : Inhabited Act6V := ⟨⟨0, none, 0, [], 0, false⟩⟩
    obtain ⟨q, hq⟩ := choose_lt each
    have hmem : ∀ x ∈ (List.range n).map q, ∃ i, i < n ∧ x = q i := fun x hx => by
      obtain ⟨i, hi, rfl⟩ := List.mem_map.1 hx
      exact ⟨i, List.mem_range.1 hi, rfl⟩
    unfold maxLen at hm
    injection h2 with hd2 _
    have hbound : ∀ i, i < n → ∀ k, k ∈ (D i).weights Tryz.prog 77 → k ≤ reachBytes := fun i hi k hk => by
      have := List.all_eq_true.1 hs k (DataW.weights_mem_each ht hd k (by
        rw [hd2]
        simp only [DataW.weights, Tryz.underlying67]
        exact List.mem_cons_of_mem _ (List.mem_append_left _ (weights_elem (List.mem_map_of_mem (List.mem_range.2 hi)) hk))))
      exact of_decide_eq_true this
    refine ⟨(List.range n).map q, ⟨by simp, ?_, ?_, ?_, ?_⟩, by omega⟩
    · refine reads_of_cells ?_ fun i v hv => ?_
      · rw [List.length_flatMap]
        have : ((List.range n).map q).map (fun x => x.cells.length) = List.replicate n 4 := by
          apply List.ext_getElem <;> simp [Act6V.cells]
        rw [this, List.sum_replicate_nat]
      · obtain ⟨g1, g2⟩ := flat6_cell _ i v hv
        have hi : i / 4 < n := by simpa using g1
        have := (hq (i / 4) hi).cell (i % 4) v (by simpa using g2)
        rw [show i / 4 * 4 + i % 4 = i by omega] at this
        exact this
    · intro x hx
      obtain ⟨i, hi, rfl⟩ := hmem x hx
      exact (hq i hi).bytes
    · intro x hx
      obtain ⟨i, hi, rfl⟩ := hmem x hx
      exact (hq i hi).kind
    · intro x hx
      obtain ⟨i, hi, rfl⟩ := hmem x hx
      obtain ⟨d0, d1, d2, d3, hdi, hb⟩ := (hq i hi).data
      have hall : ∀ k, k ∈ DataW.weightsEach Tryz.prog [5, 46, 66, 4] [d0, d1, d2, d3] → k ≤ reachBytes := fun k hk => by
        refine hbound i hi k ?_
        rw [hdi]
        simp only [DataW.weights, Tryz.underlying77]
        exact hk
      refine ⟨?_, (hq i hi).keep, (hq i hi).cap⟩
      rcases hb with hb | ⟨el, sp, hel, hlen⟩
      · rw [hb]; simp
      · have b3 := hall _ (DataW.weights_mem_each (j := 1) (t := 46) (d := d1) rfl rfl ((el.length + sp.length) * Tryz.prog.bytesOf 5) (by rw [hel]; simp [DataW.weights, Tryz.underlying46]))
        rw [bytes_u8] at b3
        unfold reachBytes at b3
        omega
end
end Go.Proofs.YtcakdaadbpimaaaGreatDoor
