/- DecidersSure answers true at every input and leaves its arguments as they were: the tied card, as given, with no condition of its own. -/
import Derived.Test.YtkdiejbpleojnaaGreatDoorTie
import Derived.Test.YtkdiejbpleojnaaGreatDoorCards
import Derived.Test.YtkdiejbpleojnaaGreatDoorDecidersSureRow
import Derived.Test.YtkdiejbpleojnaaGreatDoorDecidersSureCard0
import Derived.SevenTiedAt
namespace Go.Proofs.YtkdiejbpleojnaaGreatDoor
open Go.ChangeShapes Go.WideShapes Go.ChangeAt Go.RowKit
theorem decidersSure_holds : Rows.DecidersSureCardSaid :=
  Claim7.holds_tied_plain_at .later [] [.data, .pinned] true Rows.decidersSureCard.stood.harness true decidersSure_row (fun _ h => by cases h) decidersSure_text (fun _ h => by cases h) decidersSure_row_tie rfl ⟨rfl, rfl⟩ decidersSure_main rfl
    (fun f fn hf hfn => by
      obtain rfl : f = 6 := Option.some.inj (decidersSure_named.symm.trans hf) |>.symm
      obtain rfl : fn = Tryz.f6 := (Option.some.inj (Tryz.func6.symm.trans hfn)).symm
      exact ⟨decidersSure_looks, fun j t ht => by
        rw [Tryz.params6] at ht
        have hm := Array.mem_of_getElem? ht
        have hall : (Tryz.f6.params.all fun u => !Tryz.prog.wantsStandIn u) = true := decidersSure_stand
        rw [Tryz.params6] at hall
        have := Array.all_eq_true_iff_forall_mem.1 hall t hm
        exact (show Tryz.prog.wantsStandIn t = false by simpa using this)⟩)
    decidersSure_goes
#print axioms decidersSure_holds
end Go.Proofs.YtkdiejbpleojnaaGreatDoor
