/- JournalsBack answers true at every input and leaves its arguments as they were: the tied card, as given, with no condition of its own. -/
import Derived.Test.YtmpgnnjhgjfgaaaDoorTie
import Derived.Test.YtmpgnnjhgjfgaaaDoorCards
import Derived.Test.YtmpgnnjhgjfgaaaDoorJournalsBackRow
import Derived.Test.YtmpgnnjhgjfgaaaDoorJournalsBackCard0
import Derived.SevenTiedAt
namespace Go.Proofs.YtmpgnnjhgjfgaaaDoor
open Go.ChangeShapes Go.WideShapes Go.ChangeAt Go.RowKit
theorem journalsBack_holds : Rows.JournalsBackCardSaid :=
  Claim7.holds_tied_plain_at .later [] [.data, .pinned] true Rows.journalsBackCard.stood.harness true journalsBack_row (fun _ h => by cases h) journalsBack_text (fun _ h => by cases h) journalsBack_row_tie rfl ⟨rfl, rfl⟩ journalsBack_main rfl
    (fun f fn hf hfn => by
      obtain rfl : f = 3 := Option.some.inj (journalsBack_named.symm.trans hf) |>.symm
      obtain rfl : fn = Tryd.f3 := (Option.some.inj (Tryd.func3.symm.trans hfn)).symm
      exact ⟨journalsBack_looks, fun j t ht => by
        rw [Tryd.params3] at ht
        have hm := Array.mem_of_getElem? ht
        have hall : (Tryd.f3.params.all fun u => !Tryd.prog.wantsStandIn u) = true := journalsBack_stand
        rw [Tryd.params3] at hall
        have := Array.all_eq_true_iff_forall_mem.1 hall t hm
        exact (show Tryd.prog.wantsStandIn t = false by simpa using this)⟩)
    journalsBack_goes
#print axioms journalsBack_holds
end Go.Proofs.YtmpgnnjhgjfgaaaDoor
