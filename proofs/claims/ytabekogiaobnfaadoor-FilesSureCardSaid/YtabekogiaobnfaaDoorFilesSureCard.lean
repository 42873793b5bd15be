/- FilesSure answers true at every input and leaves its arguments as they were: the tied card, as given, with no condition of its own. -/
import Derived.Test.YtabekogiaobnfaaDoorTie
import Derived.Test.YtabekogiaobnfaaDoorCards
import Derived.Test.YtabekogiaobnfaaDoorFilesSureRow
import Derived.Test.YtabekogiaobnfaaDoorFilesSureCard0
import Derived.SevenTiedAt
namespace Go.Proofs.YtabekogiaobnfaaDoor
open Go.ChangeShapes Go.WideShapes Go.ChangeAt Go.RowKit
theorem filesSure_holds : Rows.FilesSureCardSaid :=
  Claim7.holds_tied_plain_at .later [] [.data, .pinned] true Rows.filesSureCard.stood.harness true filesSure_row (fun _ h => by cases h) filesSure_text (fun _ h => by cases h) filesSure_row_tie rfl ⟨rfl, rfl⟩ filesSure_main rfl
    (fun f fn hf hfn => by
      obtain rfl : f = 14 := Option.some.inj (filesSure_named.symm.trans hf) |>.symm
      obtain rfl : fn = Tryd.f14 := (Option.some.inj (Tryd.func14.symm.trans hfn)).symm
      exact ⟨filesSure_looks, fun j t ht => by
        rw [Tryd.params14] at ht
        have hm := Array.mem_of_getElem? ht
        have hall : (Tryd.f14.params.all fun u => !Tryd.prog.wantsStandIn u) = true := filesSure_stand
        rw [Tryd.params14] at hall
        have := Array.all_eq_true_iff_forall_mem.1 hall t hm
        exact (show Tryd.prog.wantsStandIn t = false by simpa using this)⟩)
    filesSure_goes
#print axioms filesSure_holds
end Go.Proofs.YtabekogiaobnfaaDoor
