/- Arguments that are arrays of two texts, opened: plain lemmas. -/
import Derived.Test.YtabekogiaobnfaaDoorFacts
import Derived.Test.YtabekogiaobnfaaDoorProg
import Derived.ProofKit
import Derived.OpenShut
import Derived.SizedLaws
namespace Go.Proofs.YtabekogiaobnfaaDoor
open Go.ChangeShapes Go.WideShapes Go.ChangeAt Go.RowKit
theorem okWide_array {P : Program} {w : World} {r : Reach} {base n : Nat} {t e : TypeId} {v : Value} (ht : P.underlying t = some (.array n e)) (h : Value.okWide P w r base t v) : ∃ cs, v = .agg cs ∧ cs.size = P.cellsOf t := by
  simp only [Value.okWide, ht] at h
  obtain ⟨cs, h1, h2, _⟩ := h
  exact ⟨cs, h1, h2⟩
theorem und_text2 : Tryd.prog.underlying 70 = some (.array 2 9) := by kernel_rfl
set_option maxRecDepth 100000 in
theorem cells_text2 : Tryd.prog.cellsOf 70 = 2 := by kernel_rfl
set_option maxRecDepth 100000 in
theorem cells_string : Tryd.prog.cellsOf 9 = 1 := by kernel_rfl
set_option maxRecDepth 100000 in
theorem open_text2 {H : Type} {enc : TypeId × Value → H} {w : World} {base b0 : Nat} {spare : Nat → Bool} {held : Bool} {r : Reach} {v : Value} {d : DataW H} {p : List MemPlace}
    (hv : Value.okWide Tryd.prog w r b0 70 v) (h : DataW.Trod enc Tryd.prog w base spare held 70 v d p) : ∃ a b : ByteArray, v = .agg #[.string a, .string b] ∧ (a.size ≤ maxLen ∧ b.size ≤ maxLen) ∧ d = .agg [.lit (.string a.data.toList), .lit (.string b.data.toList)] := by
  obtain ⟨cs, rfl, hsz⟩ := okWide_array und_text2 hv
  rw [cells_text2] at hsz
  obtain ⟨fuel, hf⟩ := h
  obtain ⟨xs, m, _, hx, _, hn, hel⟩ := DataW.trod_array und_text2 hf
  have e2 : ∃ c0 c1, cs = #[c0, c1] := by
    obtain ⟨l⟩ := cs
    match l, hsz with
    | [c0, c1], _ => exact ⟨c0, c1, rfl⟩
  obtain ⟨c0, c1, rfl⟩ := e2
  match xs, hn with
  | [x0, x1], _ =>
    have h0 := hel 0 (by decide)
    have h1 := hel 1 (by decide)
    rw [cells_string] at h0 h1
    obtain ⟨a, e0, y0, z0⟩ := DataW.trod_string Tryd.underlying9 (x := x0) h0
    obtain ⟨b, e1, y1, z1⟩ := DataW.trod_string Tryd.underlying9 (x := x1) h1
    simp [Value.cells] at e0 e1
    subst e0 e1 y0 y1
    injection hx with h2 _
    exact ⟨a, b, rfl, ⟨z0, z1⟩, h2⟩
theorem sized_text2 {H : Type} {ts : List TypeId} {ds : List (DataW H)} (h : (DataW.weightsEach Tryd.prog ts ds).all (· ≤ reachBytes) = true) {j : Nat} {a b : ByteArray} (ht : ts[j]? = some 70) (hd : ds[j]? = some (.agg [.lit (.string a.data.toList), .lit (.string b.data.toList)])) :
    a.size ≤ reachBytes ∧ b.size ≤ reachBytes := by
  have e : ∀ s : ByteArray, s.data.toList.length = s.size := fun s => by rw [Array.length_toList]; rfl
  have h1 := List.all_eq_true.1 h _ (DataW.weights_mem_each ht hd a.data.toList.length (by simp [DataW.weights, DataW.weightsAll]))
  have h2 := List.all_eq_true.1 h _ (DataW.weights_mem_each ht hd b.data.toList.length (by simp [DataW.weights, DataW.weightsAll]))
  rw [e] at h1 h2
  exact ⟨of_decide_eq_true h1, of_decide_eq_true h2⟩
theorem und_u16x2 : Tryd.prog.underlying 64 = some (.array 2 47) := by kernel_rfl
set_option maxRecDepth 100000 in
theorem cells_u16x2 : Tryd.prog.cellsOf 64 = 2 := by kernel_rfl
set_option maxRecDepth 100000 in
theorem cells_u16 : Tryd.prog.cellsOf 47 = 1 := by kernel_rfl
theorem wf_u16 {k : Int} (h : (Lit.int .u16 k).wf = true) : ∃ n : Nat, k = n ∧ n < 65536 := by
  have h1 : IntKind.u16.min ≤ k ∧ k ≤ IntKind.u16.max := by simpa [Lit.wf] using h
  have e1 : IntKind.u16.min = 0 := by decide
  have e2 : IntKind.u16.max = 65535 := by decide
  rw [e1, e2] at h1
  exact ⟨k.toNat, by omega, by omega⟩
set_option maxRecDepth 100000 in
theorem open_u16x2 {H : Type} {enc : TypeId × Value → H} {w : World} {base b0 : Nat} {spare : Nat → Bool} {held : Bool} {r : Reach} {v : Value} {d : DataW H} {p : List MemPlace}
    (hv : Value.okWide Tryd.prog w r b0 64 v) (h : DataW.Trod enc Tryd.prog w base spare held 64 v d p) : ∃ a b : Nat, v = .agg #[.int .u16 (a : Int), .int .u16 (b : Int)] ∧ (a < 65536 ∧ b < 65536) := by
  obtain ⟨cs, rfl, hsz⟩ := okWide_array und_u16x2 hv
  rw [cells_u16x2] at hsz
  obtain ⟨fuel, hf⟩ := h
  obtain ⟨xs, m, _, hx, _, hn, hel⟩ := DataW.trod_array und_u16x2 hf
  have e2 : ∃ c0 c1, cs = #[c0, c1] := by
    obtain ⟨l⟩ := cs
    match l, hsz with
    | [c0, c1], _ => exact ⟨c0, c1, rfl⟩
  obtain ⟨c0, c1, rfl⟩ := e2
  match xs, hn with
  | [x0, x1], _ =>
    have h0 := hel 0 (by decide)
    have h1 := hel 1 (by decide)
    rw [cells_u16] at h0 h1
    obtain ⟨a, e0, y0, z0⟩ := DataW.trod_int Tryd.underlying47 (x := x0) h0
    obtain ⟨b, e1, y1, z1⟩ := DataW.trod_int Tryd.underlying47 (x := x1) h1
    simp [Value.cells] at e0 e1
    subst e0 e1
    obtain ⟨n, rfl, hn⟩ := wf_u16 z0
    obtain ⟨k, rfl, hk⟩ := wf_u16 z1
    exact ⟨n, k, rfl, hn, hk⟩
theorem wf_u8 {k : Int} (h : (Lit.int .u8 k).wf = true) : ∃ n : Nat, k = n ∧ n < 256 := by
  have h1 : IntKind.u8.min ≤ k ∧ k ≤ IntKind.u8.max := by simpa [Lit.wf] using h
  have e1 : IntKind.u8.min = 0 := by decide
  have e2 : IntKind.u8.max = 255 := by decide
  rw [e1, e2] at h1
  exact ⟨k.toNat, by omega, by omega⟩
end Go.Proofs.YtabekogiaobnfaaDoor
