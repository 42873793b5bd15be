/- FilesKeep answers true at every input and leaves its arguments as they were: the tied card, as given, with no condition of its own. -/
import Derived.Test.YtabekogiaobnfaaDoorTie
import Derived.Test.YtabekogiaobnfaaDoorCards
import Derived.Test.YtabekogiaobnfaaDoorFilesKeepRow
import Derived.Test.YtabekogiaobnfaaDoorFilesKeepCard0
import Derived.SevenTiedAt
namespace Go.Proofs.YtabekogiaobnfaaDoor
open Go.ChangeShapes Go.WideShapes Go.ChangeAt Go.RowKit
theorem filesKeep_holds : Rows.FilesKeepCardSaid :=
  Claim7.holds_tied_plain_at .later [] [.data, .pinned] true Rows.filesKeepCard.stood.harness true filesKeep_row (fun _ h => by cases h) filesKeep_text (fun _ h => by cases h) filesKeep_row_tie rfl ⟨rfl, rfl⟩ filesKeep_main rfl
    (fun f fn hf hfn => by
      obtain rfl : f = 12 := Option.some.inj (filesKeep_named.symm.trans hf) |>.symm
      obtain rfl : fn = Tryd.f12 := (Option.some.inj (Tryd.func12.symm.trans hfn)).symm
      exact ⟨filesKeep_looks, fun j t ht => by
        rw [Tryd.params12] at ht
        have hm := Array.mem_of_getElem? ht
        have hall : (Tryd.f12.params.all fun u => !Tryd.prog.wantsStandIn u) = true := filesKeep_stand
        rw [Tryd.params12] at hall
        have := Array.all_eq_true_iff_forall_mem.1 hall t hm
        exact (show Tryd.prog.wantsStandIn t = false by simpa using this)⟩)
    filesKeep_goes
#print axioms filesKeep_holds
end Go.Proofs.YtabekogiaobnfaaDoor
