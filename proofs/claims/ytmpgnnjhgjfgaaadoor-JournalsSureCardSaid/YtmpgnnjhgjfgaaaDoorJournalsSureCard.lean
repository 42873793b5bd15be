/- JournalsSure answers true at every input and leaves its arguments as they were: the tied card, as given, with no condition of its own. -/
import Derived.Test.YtmpgnnjhgjfgaaaDoorTie
import Derived.Test.YtmpgnnjhgjfgaaaDoorCards
import Derived.Test.YtmpgnnjhgjfgaaaDoorJournalsSureRow
import Derived.Test.YtmpgnnjhgjfgaaaDoorJournalsSureCard0
import Derived.SevenTiedAt
namespace Go.Proofs.YtmpgnnjhgjfgaaaDoor
open Go.ChangeShapes Go.WideShapes Go.ChangeAt Go.RowKit
theorem journalsSure_holds : Rows.JournalsSureCardSaid :=
  Claim7.holds_tied_plain_at .later [] [.data, .pinned] true Rows.journalsSureCard.stood.harness true journalsSure_row (fun _ h => by cases h) journalsSure_text (fun _ h => by cases h) journalsSure_row_tie rfl ⟨rfl, rfl⟩ journalsSure_main rfl
    (fun f fn hf hfn => by
      obtain rfl : f = 7 := Option.some.inj (journalsSure_named.symm.trans hf) |>.symm
      obtain rfl : fn = Tryd.f7 := (Option.some.inj (Tryd.func7.symm.trans hfn)).symm
      exact ⟨journalsSure_looks, fun j t ht => by
        rw [Tryd.params7] at ht
        have hm := Array.mem_of_getElem? ht
        have hall : (Tryd.f7.params.all fun u => !Tryd.prog.wantsStandIn u) = true := journalsSure_stand
        rw [Tryd.params7] at hall
        have := Array.all_eq_true_iff_forall_mem.1 hall t hm
        exact (show Tryd.prog.wantsStandIn t = false by simpa using this)⟩)
    journalsSure_goes
#print axioms journalsSure_holds
end Go.Proofs.YtmpgnnjhgjfgaaaDoor
