/- JournalsPlay answers true at every input and leaves its arguments as they were: the tied card, as given, with no condition of its own. -/
import Derived.Test.YtcakdaadbpimaaaGreatDoorTie
import Derived.Test.YtcakdaadbpimaaaGreatDoorCards
import Derived.Test.YtcakdaadbpimaaaGreatDoorJournalsPlayRow
import Derived.Test.YtcakdaadbpimaaaGreatDoorJournalsPlayCard0
import Derived.SevenTiedAt
namespace Go.Proofs.YtcakdaadbpimaaaGreatDoor
open Go.ChangeShapes Go.WideShapes Go.ChangeAt Go.RowKit
theorem journalsPlay_holds : Rows.JournalsPlayCardSaid :=
  Claim7.holds_tied_plain_at .later [] [.data, .data, .data, .data, .pinned] true Rows.journalsPlayCard.stood.harness true journalsPlay_row (fun _ h => by cases h) journalsPlay_text (fun _ h => by cases h) journalsPlay_row_tie rfl ⟨rfl, rfl⟩ journalsPlay_main rfl
    (fun f fn hf hfn => by
      obtain rfl : f = 4 := Option.some.inj (journalsPlay_named.symm.trans hf) |>.symm
      obtain rfl : fn = Tryz.f4 := (Option.some.inj (Tryz.func4.symm.trans hfn)).symm
      exact ⟨journalsPlay_looks, fun j t ht => by
        rw [Tryz.params4] at ht
        have hm := Array.mem_of_getElem? ht
        have hall : (Tryz.f4.params.all fun u => !Tryz.prog.wantsStandIn u) = true := journalsPlay_stand
        rw [Tryz.params4] at hall
        have := Array.all_eq_true_iff_forall_mem.1 hall t hm
        exact (show Tryz.prog.wantsStandIn t = false by simpa using this)⟩)
    journalsPlay_goes
#print axioms journalsPlay_holds
end Go.Proofs.YtcakdaadbpimaaaGreatDoor
