/- FilesNames: the card's closed facts, one by one (in one declaration the kernel runs out of memory): plain lemmas. -/
import Derived.Test.YtabekogiaobnfaaDoorTie
import Derived.Test.YtabekogiaobnfaaDoorCards
import Derived.Test.YtabekogiaobnfaaDoorFilesNamesRow
import Derived.SevenTiedAt
namespace Go.Proofs.YtabekogiaobnfaaDoor
open Go.ChangeShapes Go.WideShapes Go.ChangeAt Go.RowKit
theorem filesNames_text : Rows.filesNamesRow.wfByText (OpenSpec.ofChange Rows.filesNamesSpec) = true := by kernel_rfl
theorem filesNames_main : Tryd.pinned.checked.prog.mainIs = some (Rows.filesNamesCard.stood.harness.1, Rows.filesNamesCard.stood.harness.2.toList) := by kernel_rfl
theorem filesNames_looks : true = Tryd.pinned.checked.prog.looks [] := by kernel_rfl
theorem filesNames_goes : false = Rows.filesNamesRow.goesBy Tryd.pinned.checked.prog := by kernel_rfl
theorem filesNames_named : Tryd.prog.funcNamed "bucketline/bucketlinelaw05.FilesNames" = some 16 := by kernel_rfl
theorem filesNames_stand : (Tryd.f16.params.all fun u => !Tryd.prog.wantsStandIn u) = true := by kernel_rfl
end Go.Proofs.YtabekogiaobnfaaDoor
