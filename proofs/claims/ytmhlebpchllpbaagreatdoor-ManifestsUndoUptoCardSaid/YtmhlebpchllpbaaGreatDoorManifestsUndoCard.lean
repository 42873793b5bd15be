/- ManifestsUndo answers true at every input and leaves its arguments as they were: the tied card, as given, with no condition of its own. -/
import Derived.Test.YtmhlebpchllpbaaGreatDoorTie
import Derived.Test.YtmhlebpchllpbaaGreatDoorCards
import Derived.Test.YtmhlebpchllpbaaGreatDoorManifestsUndoRow
import Derived.Test.YtmhlebpchllpbaaGreatDoorManifestsUndoCard0
import Derived.SevenTiedAt
namespace Go.Proofs.YtmhlebpchllpbaaGreatDoor
open Go.ChangeShapes Go.WideShapes Go.ChangeAt Go.RowKit
theorem manifestsUndo_holds : Rows.ManifestsUndoUptoCardSaid :=
  Claim7.holds_tied_plain_at .later [] [.data, .data, .data, .data, .sentinel, .sentinel, .pinned] true Rows.manifestsUndoUptoCard.stood.harness true manifestsUndo_row (fun _ h => by cases h) manifestsUndo_text (fun _ h => by cases h) manifestsUndoUpto_row_tie rfl ⟨rfl, rfl⟩ manifestsUndo_main rfl
    (fun f fn hf hfn => by
      obtain rfl : f = 4 := Option.some.inj (manifestsUndo_named.symm.trans hf) |>.symm
      obtain rfl : fn = Tryz.f4 := (Option.some.inj (Tryz.func4.symm.trans hfn)).symm
      exact ⟨manifestsUndo_looks, fun j t ht => by
        rw [Tryz.params4] at ht
        have hm := Array.mem_of_getElem? ht
        have hall : (Tryz.f4.params.all fun u => !Tryz.prog.wantsStandIn u) = true := manifestsUndo_stand
        rw [Tryz.params4] at hall
        have := Array.all_eq_true_iff_forall_mem.1 hall t hm
        exact (show Tryz.prog.wantsStandIn t = false by simpa using this)⟩)
    manifestsUndo_goes
#print axioms manifestsUndo_holds
end Go.Proofs.YtmhlebpchllpbaaGreatDoor
