/- FilesKeep: the card's closed facts, one by one (in one declaration the kernel runs out of memory): plain lemmas. -/
import Derived.Test.YtabekogiaobnfaaDoorTie
import Derived.Test.YtabekogiaobnfaaDoorCards
import Derived.Test.YtabekogiaobnfaaDoorFilesKeepRow
import Derived.SevenTiedAt
namespace Go.Proofs.YtabekogiaobnfaaDoor
open Go.ChangeShapes Go.WideShapes Go.ChangeAt Go.RowKit
theorem filesKeep_text : Rows.filesKeepRow.wfByText (OpenSpec.ofChange Rows.filesKeepSpec) = true := by kernel_rfl
theorem filesKeep_main : Tryd.pinned.checked.prog.mainIs = some (Rows.filesKeepCard.stood.harness.1, Rows.filesKeepCard.stood.harness.2.toList) := by kernel_rfl
theorem filesKeep_looks : true = Tryd.pinned.checked.prog.looks [] := by kernel_rfl
theorem filesKeep_goes : false = Rows.filesKeepRow.goesBy Tryd.pinned.checked.prog := by kernel_rfl
theorem filesKeep_named : Tryd.prog.funcNamed "bucketline/bucketlinelaw05.FilesKeep" = some 12 := by kernel_rfl
theorem filesKeep_stand : (Tryd.f12.params.all fun u => !Tryd.prog.wantsStandIn u) = true := by kernel_rfl
end Go.Proofs.YtabekogiaobnfaaDoor
