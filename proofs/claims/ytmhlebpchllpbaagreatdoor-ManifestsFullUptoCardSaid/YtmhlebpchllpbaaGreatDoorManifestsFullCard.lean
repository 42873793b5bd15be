/- ManifestsFull answers true at every input and leaves its arguments as they were: the tied card, as given, with no condition of its own. -/
import Derived.Test.YtmhlebpchllpbaaGreatDoorTie
import Derived.Test.YtmhlebpchllpbaaGreatDoorCards
import Derived.Test.YtmhlebpchllpbaaGreatDoorManifestsFullRow
import Derived.Test.YtmhlebpchllpbaaGreatDoorManifestsFullCard0
import Derived.SevenTiedAt
namespace Go.Proofs.YtmhlebpchllpbaaGreatDoor
open Go.ChangeShapes Go.WideShapes Go.ChangeAt Go.RowKit
theorem manifestsFull_holds : Rows.ManifestsFullUptoCardSaid :=
  Claim7.holds_tied_plain_at .later [] [.data, .data, .data, .data, .sentinel, .sentinel, .pinned] true Rows.manifestsFullUptoCard.stood.harness true manifestsFull_row (fun _ h => by cases h) manifestsFull_text (fun _ h => by cases h) manifestsFullUpto_row_tie rfl ⟨rfl, rfl⟩ manifestsFull_main rfl
    (fun f fn hf hfn => by
      obtain rfl : f = 3 := Option.some.inj (manifestsFull_named.symm.trans hf) |>.symm
      obtain rfl : fn = Tryz.f3 := (Option.some.inj (Tryz.func3.symm.trans hfn)).symm
      exact ⟨manifestsFull_looks, fun j t ht => by
        rw [Tryz.params3] at ht
        have hm := Array.mem_of_getElem? ht
        have hall : (Tryz.f3.params.all fun u => !Tryz.prog.wantsStandIn u) = true := manifestsFull_stand
        rw [Tryz.params3] at hall
        have := Array.all_eq_true_iff_forall_mem.1 hall t hm
        exact (show Tryz.prog.wantsStandIn t = false by simpa using this)⟩)
    manifestsFull_goes
#print axioms manifestsFull_holds
end Go.Proofs.YtmhlebpchllpbaaGreatDoor
