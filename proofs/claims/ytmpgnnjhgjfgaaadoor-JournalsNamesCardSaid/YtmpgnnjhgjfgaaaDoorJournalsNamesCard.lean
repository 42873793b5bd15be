/- JournalsNames answers true at every input and leaves its arguments as they were: the tied card, as given, with no condition of its own. -/
import Derived.Test.YtmpgnnjhgjfgaaaDoorTie
import Derived.Test.YtmpgnnjhgjfgaaaDoorCards
import Derived.Test.YtmpgnnjhgjfgaaaDoorJournalsNamesRow
import Derived.Test.YtmpgnnjhgjfgaaaDoorJournalsNamesCard0
import Derived.SevenTiedAt
namespace Go.Proofs.YtmpgnnjhgjfgaaaDoor
open Go.ChangeShapes Go.WideShapes Go.ChangeAt Go.RowKit
theorem journalsNames_holds : Rows.JournalsNamesCardSaid :=
  Claim7.holds_tied_plain_at .later [] [.data, .pinned] true Rows.journalsNamesCard.stood.harness true journalsNames_row (fun _ h => by cases h) journalsNames_text (fun _ h => by cases h) journalsNames_row_tie rfl ⟨rfl, rfl⟩ journalsNames_main rfl
    (fun f fn hf hfn => by
      obtain rfl : f = 9 := Option.some.inj (journalsNames_named.symm.trans hf) |>.symm
      obtain rfl : fn = Tryd.f9 := (Option.some.inj (Tryd.func9.symm.trans hfn)).symm
      exact ⟨journalsNames_looks, fun j t ht => by
        rw [Tryd.params9] at ht
        have hm := Array.mem_of_getElem? ht
        have hall : (Tryd.f9.params.all fun u => !Tryd.prog.wantsStandIn u) = true := journalsNames_stand
        rw [Tryd.params9] at hall
        have := Array.all_eq_true_iff_forall_mem.1 hall t hm
        exact (show Tryd.prog.wantsStandIn t = false by simpa using this)⟩)
    journalsNames_goes
#print axioms journalsNames_holds
end Go.Proofs.YtmpgnnjhgjfgaaaDoor
