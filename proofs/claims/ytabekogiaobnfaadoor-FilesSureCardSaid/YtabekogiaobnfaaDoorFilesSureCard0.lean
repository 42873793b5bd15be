/- FilesSure: the card's closed facts, one by one (in one declaration the kernel runs out of memory): plain lemmas. -/
import Derived.Test.YtabekogiaobnfaaDoorTie
import Derived.Test.YtabekogiaobnfaaDoorCards
import Derived.Test.YtabekogiaobnfaaDoorFilesSureRow
import Derived.SevenTiedAt
namespace Go.Proofs.YtabekogiaobnfaaDoor
open Go.ChangeShapes Go.WideShapes Go.ChangeAt Go.RowKit
theorem filesSure_text : Rows.filesSureRow.wfByText (OpenSpec.ofChange Rows.filesSureSpec) = true := by kernel_rfl
theorem filesSure_main : Tryd.pinned.checked.prog.mainIs = some (Rows.filesSureCard.stood.harness.1, Rows.filesSureCard.stood.harness.2.toList) := by kernel_rfl
theorem filesSure_looks : true = Tryd.pinned.checked.prog.looks [] := by kernel_rfl
theorem filesSure_goes : false = Rows.filesSureRow.goesBy Tryd.pinned.checked.prog := by kernel_rfl
theorem filesSure_named : Tryd.prog.funcNamed "bucketline/bucketlinelaw05.FilesSure" = some 14 := by kernel_rfl
theorem filesSure_stand : (Tryd.f14.params.all fun u => !Tryd.prog.wantsStandIn u) = true := by kernel_rfl
end Go.Proofs.YtabekogiaobnfaaDoor
