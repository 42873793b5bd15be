/- FilesMoves answers true at every input and leaves its arguments as they were: the tied card, as given, with no condition of its own. -/
import Derived.Test.YtabekogiaobnfaaDoorTie
import Derived.Test.YtabekogiaobnfaaDoorCards
import Derived.Test.YtabekogiaobnfaaDoorFilesMovesRow
import Derived.Test.YtabekogiaobnfaaDoorFilesMovesCard0
import Derived.SevenTiedAt
namespace Go.Proofs.YtabekogiaobnfaaDoor
open Go.ChangeShapes Go.WideShapes Go.ChangeAt Go.RowKit
theorem filesMoves_holds : Rows.FilesMovesCardSaid :=
  Claim7.holds_tied_plain_at .later [] [.data, .pinned] true Rows.filesMovesCard.stood.harness true filesMoves_row (fun _ h => by cases h) filesMoves_text (fun _ h => by cases h) filesMoves_row_tie rfl ⟨rfl, rfl⟩ filesMoves_main rfl
    (fun f fn hf hfn => by
      obtain rfl : f = 10 := Option.some.inj (filesMoves_named.symm.trans hf) |>.symm
      obtain rfl : fn = Tryd.f10 := (Option.some.inj (Tryd.func10.symm.trans hfn)).symm
      exact ⟨filesMoves_looks, fun j t ht => by
        rw [Tryd.params10] at ht
        have hm := Array.mem_of_getElem? ht
        have hall : (Tryd.f10.params.all fun u => !Tryd.prog.wantsStandIn u) = true := filesMoves_stand
        rw [Tryd.params10] at hall
        have := Array.all_eq_true_iff_forall_mem.1 hall t hm
        exact (show Tryd.prog.wantsStandIn t = false by simpa using this)⟩)
    filesMoves_goes
#print axioms filesMoves_holds
end Go.Proofs.YtabekogiaobnfaaDoor
