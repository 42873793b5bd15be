/- FilesBytes: the card's closed facts, one by one (in one declaration the kernel runs out of memory): plain lemmas. -/
import Derived.Test.YtabekogiaobnfaaDoorTie
import Derived.Test.YtabekogiaobnfaaDoorCards
import Derived.Test.YtabekogiaobnfaaDoorFilesBytesRow
import Derived.SevenTiedAt
namespace Go.Proofs.YtabekogiaobnfaaDoor
open Go.ChangeShapes Go.WideShapes Go.ChangeAt Go.RowKit
theorem filesBytes_text : Rows.filesBytesRow.wfByText (OpenSpec.ofChange Rows.filesBytesSpec) = true := by kernel_rfl
theorem filesBytes_main : Tryd.pinned.checked.prog.mainIs = some (Rows.filesBytesCard.stood.harness.1, Rows.filesBytesCard.stood.harness.2.toList) := by kernel_rfl
theorem filesBytes_looks : true = Tryd.pinned.checked.prog.looks [] := by kernel_rfl
theorem filesBytes_goes : false = Rows.filesBytesRow.goesBy Tryd.pinned.checked.prog := by kernel_rfl
theorem filesBytes_named : Tryd.prog.funcNamed "bucketline/bucketlinelaw05.FilesBytes" = some 9 := by kernel_rfl
theorem filesBytes_stand : (Tryd.f9.params.all fun u => !Tryd.prog.wantsStandIn u) = true := by kernel_rfl
end Go.Proofs.YtabekogiaobnfaaDoor
