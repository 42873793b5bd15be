/- DecidersKeep answers true at every input and leaves its arguments as they were: the tied card, as given, with no condition of its own. -/
import Derived.Test.YtmpgnnjhgjfgaaaGreatDoorTie
import Derived.Test.YtmpgnnjhgjfgaaaGreatDoorCards
import Derived.Test.YtmpgnnjhgjfgaaaGreatDoorDecidersKeepRow
import Derived.Test.YtmpgnnjhgjfgaaaGreatDoorDecidersKeepCard0
import Derived.SevenTiedAt
namespace Go.Proofs.YtmpgnnjhgjfgaaaGreatDoor
open Go.ChangeShapes Go.WideShapes Go.ChangeAt Go.RowKit
theorem decidersKeep_holds : Rows.DecidersKeepCardSaid :=
  Claim7.holds_tied_plain_at .later [] [.data, .pinned] true Rows.decidersKeepCard.stood.harness true decidersKeep_row (fun _ h => by cases h) decidersKeep_text (fun _ h => by cases h) decidersKeep_row_tie rfl ⟨rfl, rfl⟩ decidersKeep_main rfl
    (fun f fn hf hfn => by
      obtain rfl : f = 4 := Option.some.inj (decidersKeep_named.symm.trans hf) |>.symm
      obtain rfl : fn = Tryz.f4 := (Option.some.inj (Tryz.func4.symm.trans hfn)).symm
      exact ⟨decidersKeep_looks, fun j t ht => by
        rw [Tryz.params4] at ht
        have hm := Array.mem_of_getElem? ht
        have hall : (Tryz.f4.params.all fun u => !Tryz.prog.wantsStandIn u) = true := decidersKeep_stand
        rw [Tryz.params4] at hall
        have := Array.all_eq_true_iff_forall_mem.1 hall t hm
        exact (show Tryz.prog.wantsStandIn t = false by simpa using this)⟩)
    decidersKeep_goes
#print axioms decidersKeep_holds
end Go.Proofs.YtmpgnnjhgjfgaaaGreatDoor
