/- FilesNames answers true at every input and leaves its arguments as they were: the tied card, as given, with no condition of its own. -/
import Derived.Test.YtabekogiaobnfaaDoorTie
import Derived.Test.YtabekogiaobnfaaDoorCards
import Derived.Test.YtabekogiaobnfaaDoorFilesNamesRow
import Derived.Test.YtabekogiaobnfaaDoorFilesNamesCard0
import Derived.SevenTiedAt
namespace Go.Proofs.YtabekogiaobnfaaDoor
open Go.ChangeShapes Go.WideShapes Go.ChangeAt Go.RowKit
theorem filesNames_holds : Rows.FilesNamesCardSaid :=
  Claim7.holds_tied_plain_at .later [] [.data, .pinned] true Rows.filesNamesCard.stood.harness true filesNames_row (fun _ h => by cases h) filesNames_text (fun _ h => by cases h) filesNames_row_tie rfl ⟨rfl, rfl⟩ filesNames_main rfl
    (fun f fn hf hfn => by
      obtain rfl : f = 16 := Option.some.inj (filesNames_named.symm.trans hf) |>.symm
      obtain rfl : fn = Tryd.f16 := (Option.some.inj (Tryd.func16.symm.trans hfn)).symm
      exact ⟨filesNames_looks, fun j t ht => by
        rw [Tryd.params16] at ht
        have hm := Array.mem_of_getElem? ht
        have hall : (Tryd.f16.params.all fun u => !Tryd.prog.wantsStandIn u) = true := filesNames_stand
        rw [Tryd.params16] at hall
        have := Array.all_eq_true_iff_forall_mem.1 hall t hm
        exact (show Tryd.prog.wantsStandIn t = false by simpa using this)⟩)
    filesNames_goes
#print axioms filesNames_holds
end Go.Proofs.YtabekogiaobnfaaDoor
