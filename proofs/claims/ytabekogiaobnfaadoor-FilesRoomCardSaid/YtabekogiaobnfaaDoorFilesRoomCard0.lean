/- FilesRoom: the card's closed facts, one by one (in one declaration the kernel runs out of memory): plain lemmas. -/
import Derived.Test.YtabekogiaobnfaaDoorTie
import Derived.Test.YtabekogiaobnfaaDoorCards
import Derived.Test.YtabekogiaobnfaaDoorFilesRoomRow
import Derived.SevenTiedAt
namespace Go.Proofs.YtabekogiaobnfaaDoor
open Go.ChangeShapes Go.WideShapes Go.ChangeAt Go.RowKit
theorem filesRoom_text : Rows.filesRoomRow.wfByText (OpenSpec.ofChange Rows.filesRoomSpec) = true := by kernel_rfl
theorem filesRoom_main : Tryd.pinned.checked.prog.mainIs = some (Rows.filesRoomCard.stood.harness.1, Rows.filesRoomCard.stood.harness.2.toList) := by kernel_rfl
theorem filesRoom_looks : true = Tryd.pinned.checked.prog.looks [] := by kernel_rfl
theorem filesRoom_goes : false = Rows.filesRoomRow.goesBy Tryd.pinned.checked.prog := by kernel_rfl
theorem filesRoom_named : Tryd.prog.funcNamed "bucketline/bucketlinelaw05.FilesRoom" = some 15 := by kernel_rfl
theorem filesRoom_stand : (Tryd.f15.params.all fun u => !Tryd.prog.wantsStandIn u) = true := by kernel_rfl
end Go.Proofs.YtabekogiaobnfaaDoor
