/- FilesPlay answers true at every input and leaves its arguments as they were: the tied card, as given, with no condition of its own. -/
import Derived.Test.YtcakdaadbpimaaaGreatDoorTie
import Derived.Test.YtcakdaadbpimaaaGreatDoorCards
import Derived.Test.YtcakdaadbpimaaaGreatDoorFilesPlayRow
import Derived.Test.YtcakdaadbpimaaaGreatDoorFilesPlayCard0
import Derived.SevenTiedAt
namespace Go.Proofs.YtcakdaadbpimaaaGreatDoor
open Go.ChangeShapes Go.WideShapes Go.ChangeAt Go.RowKit
theorem filesPlay_holds : Rows.FilesPlayCardSaid :=
  Claim7.holds_tied_plain_at .later [] [.data, .data, .data, .data, .pinned] true Rows.filesPlayCard.stood.harness true filesPlay_row (fun _ h => by cases h) filesPlay_text (fun _ h => by cases h) filesPlay_row_tie rfl ⟨rfl, rfl⟩ filesPlay_main rfl
    (fun f fn hf hfn => by
      obtain rfl : f = 3 := Option.some.inj (filesPlay_named.symm.trans hf) |>.symm
      obtain rfl : fn = Tryz.f3 := (Option.some.inj (Tryz.func3.symm.trans hfn)).symm
      exact ⟨filesPlay_looks, fun j t ht => by
        rw [Tryz.params3] at ht
        have hm := Array.mem_of_getElem? ht
        have hall : (Tryz.f3.params.all fun u => !Tryz.prog.wantsStandIn u) = true := filesPlay_stand
        rw [Tryz.params3] at hall
        have := Array.all_eq_true_iff_forall_mem.1 hall t hm
        exact (show Tryz.prog.wantsStandIn t = false by simpa using this)⟩)
    filesPlay_goes
#print axioms filesPlay_holds
end Go.Proofs.YtcakdaadbpimaaaGreatDoor
