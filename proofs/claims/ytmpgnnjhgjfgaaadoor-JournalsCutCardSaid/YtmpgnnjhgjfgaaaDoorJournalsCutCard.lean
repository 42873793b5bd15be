/- JournalsCut answers true at every input and leaves its arguments as they were: the tied card, as given, with no condition of its own. -/
import Derived.Test.YtmpgnnjhgjfgaaaDoorTie
import Derived.Test.YtmpgnnjhgjfgaaaDoorCards
import Derived.Test.YtmpgnnjhgjfgaaaDoorJournalsCutRow
import Derived.Test.YtmpgnnjhgjfgaaaDoorJournalsCutCard0
import Derived.SevenTiedAt
namespace Go.Proofs.YtmpgnnjhgjfgaaaDoor
open Go.ChangeShapes Go.WideShapes Go.ChangeAt Go.RowKit
theorem journalsCut_holds : Rows.JournalsCutCardSaid :=
  Claim7.holds_tied_plain_at .later [] [.data, .pinned] true Rows.journalsCutCard.stood.harness true journalsCut_row (fun _ h => by cases h) journalsCut_text (fun _ h => by cases h) journalsCut_row_tie rfl ⟨rfl, rfl⟩ journalsCut_main rfl
    (fun f fn hf hfn => by
      obtain rfl : f = 5 := Option.some.inj (journalsCut_named.symm.trans hf) |>.symm
      obtain rfl : fn = Tryd.f5 := (Option.some.inj (Tryd.func5.symm.trans hfn)).symm
      exact ⟨journalsCut_looks, fun j t ht => by
        rw [Tryd.params5] at ht
        have hm := Array.mem_of_getElem? ht
        have hall : (Tryd.f5.params.all fun u => !Tryd.prog.wantsStandIn u) = true := journalsCut_stand
        rw [Tryd.params5] at hall
        have := Array.all_eq_true_iff_forall_mem.1 hall t hm
        exact (show Tryd.prog.wantsStandIn t = false by simpa using this)⟩)
    journalsCut_goes
#print axioms journalsCut_holds
end Go.Proofs.YtmpgnnjhgjfgaaaDoor
