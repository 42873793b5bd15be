/- Arguments opened: plain lemmas. -/
import Derived.Test.YtmpgnnjhgjfgaaaDoorFacts
import Derived.Test.YtmpgnnjhgjfgaaaDoorProg
import Derived.ProofKit
import Derived.OpenShut
import Derived.SizedLaws
namespace Go.Proofs.YtmpgnnjhgjfgaaaDoor
open Go.ChangeShapes Go.WideShapes Go.ChangeAt Go.RowKit
theorem okWide_array {P : Program} {w : World} {r : Reach} {base n : Nat} {t e : TypeId} {v : Value} (ht : P.underlying t = some (.array n e)) (h : Value.okWide P w r base t v) : ∃ cs, v = .agg cs ∧ cs.size = P.cellsOf t := by
  simp only [Value.okWide, ht] at h
  obtain ⟨cs, h1, h2, _⟩ := h
  exact ⟨cs, h1, h2⟩
set_option maxRecDepth 100000 in
theorem cells_string : Tryd.prog.cellsOf 9 = 1 := by kernel_rfl
set_option maxRecDepth 100000 in
theorem cells_u16 : Tryd.prog.cellsOf 38 = 1 := by kernel_rfl
theorem wf_u16 {k : Int} (h : (Lit.int .u16 k).wf = true) : ∃ n : Nat, k = n ∧ n < 65536 := by
  have h1 : IntKind.u16.min ≤ k ∧ k ≤ IntKind.u16.max := by simpa [Lit.wf] using h
  have e1 : IntKind.u16.min = 0 := by decide
  have e2 : IntKind.u16.max = 65535 := by decide
  rw [e1, e2] at h1
  exact ⟨k.toNat, by omega, by omega⟩
theorem wf_u8 {k : Int} (h : (Lit.int .u8 k).wf = true) : ∃ n : Nat, k = n ∧ n < 256 := by
  have h1 : IntKind.u8.min ≤ k ∧ k ≤ IntKind.u8.max := by simpa [Lit.wf] using h
  have e1 : IntKind.u8.min = 0 := by decide
  have e2 : IntKind.u8.max = 255 := by decide
  rw [e1, e2] at h1
  exact ⟨k.toNat, by omega, by omega⟩
end Go.Proofs.YtmpgnnjhgjfgaaaDoor
