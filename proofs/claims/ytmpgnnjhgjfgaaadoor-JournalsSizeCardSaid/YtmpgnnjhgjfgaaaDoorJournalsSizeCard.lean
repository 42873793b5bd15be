/- JournalsSize answers true at every input and leaves its arguments as they were: the tied card, as given, with no condition of its own. -/
import Derived.Test.YtmpgnnjhgjfgaaaDoorTie
import Derived.Test.YtmpgnnjhgjfgaaaDoorCards
import Derived.Test.YtmpgnnjhgjfgaaaDoorJournalsSizeRow
import Derived.Test.YtmpgnnjhgjfgaaaDoorJournalsSizeCard0
import Derived.SevenTiedAt
namespace Go.Proofs.YtmpgnnjhgjfgaaaDoor
open Go.ChangeShapes Go.WideShapes Go.ChangeAt Go.RowKit
theorem journalsSize_holds : Rows.JournalsSizeCardSaid :=
  Claim7.holds_tied_plain_at .later [] [.data, .pinned] true Rows.journalsSizeCard.stood.harness true journalsSize_row (fun _ h => by cases h) journalsSize_text (fun _ h => by cases h) journalsSize_row_tie rfl ⟨rfl, rfl⟩ journalsSize_main rfl
    (fun f fn hf hfn => by
      obtain rfl : f = 4 := Option.some.inj (journalsSize_named.symm.trans hf) |>.symm
      obtain rfl : fn = Tryd.f4 := (Option.some.inj (Tryd.func4.symm.trans hfn)).symm
      exact ⟨journalsSize_looks, fun j t ht => by
        rw [Tryd.params4] at ht
        have hm := Array.mem_of_getElem? ht
        have hall : (Tryd.f4.params.all fun u => !Tryd.prog.wantsStandIn u) = true := journalsSize_stand
        rw [Tryd.params4] at hall
        have := Array.all_eq_true_iff_forall_mem.1 hall t hm
        exact (show Tryd.prog.wantsStandIn t = false by simpa using this)⟩)
    journalsSize_goes
#print axioms journalsSize_holds
end Go.Proofs.YtmpgnnjhgjfgaaaDoor
