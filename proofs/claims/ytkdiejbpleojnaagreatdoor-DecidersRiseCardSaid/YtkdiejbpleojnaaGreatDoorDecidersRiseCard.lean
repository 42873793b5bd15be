/- DecidersRise answers true at every input and leaves its arguments as they were: the tied card, as given, with no condition of its own. -/
import Derived.Test.YtkdiejbpleojnaaGreatDoorTie
import Derived.Test.YtkdiejbpleojnaaGreatDoorCards
import Derived.Test.YtkdiejbpleojnaaGreatDoorDecidersRiseRow
import Derived.Test.YtkdiejbpleojnaaGreatDoorDecidersRiseCard0
import Derived.SevenTiedAt
namespace Go.Proofs.YtkdiejbpleojnaaGreatDoor
open Go.ChangeShapes Go.WideShapes Go.ChangeAt Go.RowKit
theorem decidersRise_holds : Rows.DecidersRiseCardSaid :=
  Claim7.holds_tied_plain_at .later [] [.data, .pinned] true Rows.decidersRiseCard.stood.harness true decidersRise_row (fun _ h => by cases h) decidersRise_text (fun _ h => by cases h) decidersRise_row_tie rfl ⟨rfl, rfl⟩ decidersRise_main rfl
    (fun f fn hf hfn => by
      obtain rfl : f = 5 := Option.some.inj (decidersRise_named.symm.trans hf) |>.symm
      obtain rfl : fn = Tryz.f5 := (Option.some.inj (Tryz.func5.symm.trans hfn)).symm
      exact ⟨decidersRise_looks, fun j t ht => by
        rw [Tryz.params5] at ht
        have hm := Array.mem_of_getElem? ht
        have hall : (Tryz.f5.params.all fun u => !Tryz.prog.wantsStandIn u) = true := decidersRise_stand
        rw [Tryz.params5] at hall
        have := Array.all_eq_true_iff_forall_mem.1 hall t hm
        exact (show Tryz.prog.wantsStandIn t = false by simpa using this)⟩)
    decidersRise_goes
#print axioms decidersRise_holds
end Go.Proofs.YtkdiejbpleojnaaGreatDoor
