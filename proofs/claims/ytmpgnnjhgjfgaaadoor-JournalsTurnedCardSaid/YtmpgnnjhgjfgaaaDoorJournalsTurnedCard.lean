/- JournalsTurned answers true at every input and leaves its arguments as they were: the tied card, as given, with no condition of its own. -/
import Derived.Test.YtmpgnnjhgjfgaaaDoorTie
import Derived.Test.YtmpgnnjhgjfgaaaDoorCards
import Derived.Test.YtmpgnnjhgjfgaaaDoorJournalsTurnedRow
import Derived.Test.YtmpgnnjhgjfgaaaDoorJournalsTurnedCard0
import Derived.SevenTiedAt
namespace Go.Proofs.YtmpgnnjhgjfgaaaDoor
open Go.ChangeShapes Go.WideShapes Go.ChangeAt Go.RowKit
theorem journalsTurned_holds : Rows.JournalsTurnedCardSaid :=
  Claim7.holds_tied_plain_at .later [] [.data, .pinned] true Rows.journalsTurnedCard.stood.harness true journalsTurned_row (fun _ h => by cases h) journalsTurned_text (fun _ h => by cases h) journalsTurned_row_tie rfl ⟨rfl, rfl⟩ journalsTurned_main rfl
    (fun f fn hf hfn => by
      obtain rfl : f = 6 := Option.some.inj (journalsTurned_named.symm.trans hf) |>.symm
      obtain rfl : fn = Tryd.f6 := (Option.some.inj (Tryd.func6.symm.trans hfn)).symm
      exact ⟨journalsTurned_looks, fun j t ht => by
        rw [Tryd.params6] at ht
        have hm := Array.mem_of_getElem? ht
        have hall : (Tryd.f6.params.all fun u => !Tryd.prog.wantsStandIn u) = true := journalsTurned_stand
        rw [Tryd.params6] at hall
        have := Array.all_eq_true_iff_forall_mem.1 hall t hm
        exact (show Tryd.prog.wantsStandIn t = false by simpa using this)⟩)
    journalsTurned_goes
#print axioms journalsTurned_holds
end Go.Proofs.YtmpgnnjhgjfgaaaDoor
