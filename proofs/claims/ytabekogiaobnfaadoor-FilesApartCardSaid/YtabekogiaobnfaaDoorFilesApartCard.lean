/- FilesApart answers true at every input and leaves its arguments as they were: the tied card, as given, with no condition of its own. -/
import Derived.Test.YtabekogiaobnfaaDoorTie
import Derived.Test.YtabekogiaobnfaaDoorCards
import Derived.Test.YtabekogiaobnfaaDoorFilesApartRow
import Derived.Test.YtabekogiaobnfaaDoorFilesApartCard0
import Derived.SevenTiedAt
namespace Go.Proofs.YtabekogiaobnfaaDoor
open Go.ChangeShapes Go.WideShapes Go.ChangeAt Go.RowKit
theorem filesApart_holds : Rows.FilesApartCardSaid :=
  Claim7.holds_tied_plain_at .later [] [.data, .pinned] true Rows.filesApartCard.stood.harness true filesApart_row (fun _ h => by cases h) filesApart_text (fun _ h => by cases h) filesApart_row_tie rfl ⟨rfl, rfl⟩ filesApart_main rfl
    (fun f fn hf hfn => by
      obtain rfl : f = 11 := Option.some.inj (filesApart_named.symm.trans hf) |>.symm
      obtain rfl : fn = Tryd.f11 := (Option.some.inj (Tryd.func11.symm.trans hfn)).symm
      exact ⟨filesApart_looks, fun j t ht => by
        rw [Tryd.params11] at ht
        have hm := Array.mem_of_getElem? ht
        have hall : (Tryd.f11.params.all fun u => !Tryd.prog.wantsStandIn u) = true := filesApart_stand
        rw [Tryd.params11] at hall
        have := Array.all_eq_true_iff_forall_mem.1 hall t hm
        exact (show Tryd.prog.wantsStandIn t = false by simpa using this)⟩)
    filesApart_goes
#print axioms filesApart_holds
end Go.Proofs.YtabekogiaobnfaaDoor
