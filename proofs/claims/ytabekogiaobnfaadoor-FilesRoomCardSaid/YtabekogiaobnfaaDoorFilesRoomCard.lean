/- FilesRoom answers true at every input and leaves its arguments as they were: the tied card, as given, with no condition of its own. -/
import Derived.Test.YtabekogiaobnfaaDoorTie
import Derived.Test.YtabekogiaobnfaaDoorCards
import Derived.Test.YtabekogiaobnfaaDoorFilesRoomRow
import Derived.Test.YtabekogiaobnfaaDoorFilesRoomCard0
import Derived.SevenTiedAt
namespace Go.Proofs.YtabekogiaobnfaaDoor
open Go.ChangeShapes Go.WideShapes Go.ChangeAt Go.RowKit
theorem filesRoom_holds : Rows.FilesRoomCardSaid :=
  Claim7.holds_tied_plain_at .later [] [.data, .pinned] true Rows.filesRoomCard.stood.harness true filesRoom_row (fun _ h => by cases h) filesRoom_text (fun _ h => by cases h) filesRoom_row_tie rfl ⟨rfl, rfl⟩ filesRoom_main rfl
    (fun f fn hf hfn => by
      obtain rfl : f = 15 := Option.some.inj (filesRoom_named.symm.trans hf) |>.symm
      obtain rfl : fn = Tryd.f15 := (Option.some.inj (Tryd.func15.symm.trans hfn)).symm
      exact ⟨filesRoom_looks, fun j t ht => by
        rw [Tryd.params15] at ht
        have hm := Array.mem_of_getElem? ht
        have hall : (Tryd.f15.params.all fun u => !Tryd.prog.wantsStandIn u) = true := filesRoom_stand
        rw [Tryd.params15] at hall
        have := Array.all_eq_true_iff_forall_mem.1 hall t hm
        exact (show Tryd.prog.wantsStandIn t = false by simpa using this)⟩)
    filesRoom_goes
#print axioms filesRoom_holds
end Go.Proofs.YtabekogiaobnfaaDoor
