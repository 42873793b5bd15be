/- FilesTwice: the card's closed facts, one by one (in one declaration the kernel runs out of memory): plain lemmas. -/
import Derived.Test.YtabekogiaobnfaaDoorTie
import Derived.Test.YtabekogiaobnfaaDoorCards
import Derived.Test.YtabekogiaobnfaaDoorFilesTwiceRow
import Derived.SevenTiedAt
namespace Go.Proofs.YtabekogiaobnfaaDoor
open Go.ChangeShapes Go.WideShapes Go.ChangeAt Go.RowKit
theorem filesTwice_text : Rows.filesTwiceRow.wfByText (OpenSpec.ofChange Rows.filesTwiceSpec) = true := by kernel_rfl
theorem filesTwice_main : Tryd.pinned.checked.prog.mainIs = some (Rows.filesTwiceCard.stood.harness.1, Rows.filesTwiceCard.stood.harness.2.toList) := by kernel_rfl
theorem filesTwice_looks : true = Tryd.pinned.checked.prog.looks [] := by kernel_rfl
theorem filesTwice_goes : false = Rows.filesTwiceRow.goesBy Tryd.pinned.checked.prog := by kernel_rfl
theorem filesTwice_named : Tryd.prog.funcNamed "bucketline/bucketlinelaw05.FilesTwice" = some 17 := by kernel_rfl
theorem filesTwice_stand : (Tryd.f17.params.all fun u => !Tryd.prog.wantsStandIn u) = true := by kernel_rfl
end Go.Proofs.YtabekogiaobnfaaDoor
