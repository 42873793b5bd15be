/- DecidersHolder answers true at every input and leaves its arguments as they were: the tied card, as given, with no condition of its own. -/
import Derived.Test.YtmpgnnjhgjfgaaaGreatDoorTie
import Derived.Test.YtmpgnnjhgjfgaaaGreatDoorCards
import Derived.Test.YtmpgnnjhgjfgaaaGreatDoorDecidersHolderRow
import Derived.Test.YtmpgnnjhgjfgaaaGreatDoorDecidersHolderCard0
import Derived.SevenTiedAt
namespace Go.Proofs.YtmpgnnjhgjfgaaaGreatDoor
open Go.ChangeShapes Go.WideShapes Go.ChangeAt Go.RowKit
theorem decidersHolder_holds : Rows.DecidersHolderCardSaid :=
  Claim7.holds_tied_plain_at .later [] [.data, .pinned] true Rows.decidersHolderCard.stood.harness true decidersHolder_row (fun _ h => by cases h) decidersHolder_text (fun _ h => by cases h) decidersHolder_row_tie rfl ⟨rfl, rfl⟩ decidersHolder_main rfl
    (fun f fn hf hfn => by
      obtain rfl : f = 3 := Option.some.inj (decidersHolder_named.symm.trans hf) |>.symm
      obtain rfl : fn = Tryz.f3 := (Option.some.inj (Tryz.func3.symm.trans hfn)).symm
      exact ⟨decidersHolder_looks, fun j t ht => by
        rw [Tryz.params3] at ht
        have hm := Array.mem_of_getElem? ht
        have hall : (Tryz.f3.params.all fun u => !Tryz.prog.wantsStandIn u) = true := decidersHolder_stand
        rw [Tryz.params3] at hall
        have := Array.all_eq_true_iff_forall_mem.1 hall t hm
        exact (show Tryz.prog.wantsStandIn t = false by simpa using this)⟩)
    decidersHolder_goes
#print axioms decidersHolder_holds
end Go.Proofs.YtmpgnnjhgjfgaaaGreatDoor
