/- FilesPlay: the card's closed facts, one by one (in one declaration the kernel runs out of memory): plain lemmas. -/
import Derived.Test.YtcakdaadbpimaaaGreatDoorTie
import Derived.Test.YtcakdaadbpimaaaGreatDoorCards
import Derived.Test.YtcakdaadbpimaaaGreatDoorFilesPlayRow
import Derived.SevenTiedAt
namespace Go.Proofs.YtcakdaadbpimaaaGreatDoor
open Go.ChangeShapes Go.WideShapes Go.ChangeAt Go.RowKit
theorem filesPlay_text : Rows.filesPlayRow.wfByText (OpenSpec.ofChange Rows.filesPlaySpec) = true := by kernel_rfl
theorem filesPlay_main : Tryz.pinned.checked.prog.mainIs = some (Rows.filesPlayCard.stood.harness.1, Rows.filesPlayCard.stood.harness.2.toList) := by kernel_rfl
theorem filesPlay_looks : true = Tryz.pinned.checked.prog.looks [] := by kernel_rfl
theorem filesPlay_goes : false = Rows.filesPlayRow.goesBy Tryz.pinned.checked.prog := by kernel_rfl
theorem filesPlay_named : Tryz.prog.funcNamed "bucketline/bucketlinelaw05.FilesPlay" = some 3 := by kernel_rfl
theorem filesPlay_stand : (Tryz.f3.params.all fun u => !Tryz.prog.wantsStandIn u) = true := by kernel_rfl
end Go.Proofs.YtcakdaadbpimaaaGreatDoor
