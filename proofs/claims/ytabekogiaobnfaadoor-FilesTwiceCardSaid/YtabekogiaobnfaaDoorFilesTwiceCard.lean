/- FilesTwice answers true at every input and leaves its arguments as they were: the tied card, as given, with no condition of its own. -/
import Derived.Test.YtabekogiaobnfaaDoorTie
import Derived.Test.YtabekogiaobnfaaDoorCards
import Derived.Test.YtabekogiaobnfaaDoorFilesTwiceRow
import Derived.Test.YtabekogiaobnfaaDoorFilesTwiceCard0
import Derived.SevenTiedAt
namespace Go.Proofs.YtabekogiaobnfaaDoor
open Go.ChangeShapes Go.WideShapes Go.ChangeAt Go.RowKit
theorem filesTwice_holds : Rows.FilesTwiceCardSaid :=
  Claim7.holds_tied_plain_at .later [] [.data, .pinned] true Rows.filesTwiceCard.stood.harness true filesTwice_row (fun _ h => by cases h) filesTwice_text (fun _ h => by cases h) filesTwice_row_tie rfl ⟨rfl, rfl⟩ filesTwice_main rfl
    (fun f fn hf hfn => by
      obtain rfl : f = 17 := Option.some.inj (filesTwice_named.symm.trans hf) |>.symm
      obtain rfl : fn = Tryd.f17 := (Option.some.inj (Tryd.func17.symm.trans hfn)).symm
      exact ⟨filesTwice_looks, fun j t ht => by
        rw [Tryd.params17] at ht
        have hm := Array.mem_of_getElem? ht
        have hall : (Tryd.f17.params.all fun u => !Tryd.prog.wantsStandIn u) = true := filesTwice_stand
        rw [Tryd.params17] at hall
        have := Array.all_eq_true_iff_forall_mem.1 hall t hm
        exact (show Tryd.prog.wantsStandIn t = false by simpa using this)⟩)
    filesTwice_goes
#print axioms filesTwice_holds
end Go.Proofs.YtabekogiaobnfaaDoor
