/- FilesBytes answers true at every input and leaves its arguments as they were: the tied card, as given, with no condition of its own. -/
import Derived.Test.YtabekogiaobnfaaDoorTie
import Derived.Test.YtabekogiaobnfaaDoorCards
import Derived.Test.YtabekogiaobnfaaDoorFilesBytesRow
import Derived.Test.YtabekogiaobnfaaDoorFilesBytesCard0
import Derived.SevenTiedAt
namespace Go.Proofs.YtabekogiaobnfaaDoor
open Go.ChangeShapes Go.WideShapes Go.ChangeAt Go.RowKit
theorem filesBytes_holds : Rows.FilesBytesCardSaid :=
  Claim7.holds_tied_plain_at .later [] [.data, .pinned] true Rows.filesBytesCard.stood.harness true filesBytes_row (fun _ h => by cases h) filesBytes_text (fun _ h => by cases h) filesBytes_row_tie rfl ⟨rfl, rfl⟩ filesBytes_main rfl
    (fun f fn hf hfn => by
      obtain rfl : f = 9 := Option.some.inj (filesBytes_named.symm.trans hf) |>.symm
      obtain rfl : fn = Tryd.f9 := (Option.some.inj (Tryd.func9.symm.trans hfn)).symm
      exact ⟨filesBytes_looks, fun j t ht => by
        rw [Tryd.params9] at ht
        have hm := Array.mem_of_getElem? ht
        have hall : (Tryd.f9.params.all fun u => !Tryd.prog.wantsStandIn u) = true := filesBytes_stand
        rw [Tryd.params9] at hall
        have := Array.all_eq_true_iff_forall_mem.1 hall t hm
        exact (show Tryd.prog.wantsStandIn t = false by simpa using this)⟩)
    filesBytes_goes
#print axioms filesBytes_holds
end Go.Proofs.YtabekogiaobnfaaDoor
