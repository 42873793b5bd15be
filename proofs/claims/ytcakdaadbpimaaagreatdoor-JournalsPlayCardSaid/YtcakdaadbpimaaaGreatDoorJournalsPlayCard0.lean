/- JournalsPlay: the card's closed facts, one by one (in one declaration the kernel runs out of memory): plain lemmas. -/
import Derived.Test.YtcakdaadbpimaaaGreatDoorTie
import Derived.Test.YtcakdaadbpimaaaGreatDoorCards
import Derived.Test.YtcakdaadbpimaaaGreatDoorJournalsPlayRow
import Derived.SevenTiedAt
namespace Go.Proofs.YtcakdaadbpimaaaGreatDoor
open Go.ChangeShapes Go.WideShapes Go.ChangeAt Go.RowKit
theorem journalsPlay_text : Rows.journalsPlayRow.wfByText (OpenSpec.ofChange Rows.journalsPlaySpec) = true := by kernel_rfl
theorem journalsPlay_main : Tryz.pinned.checked.prog.mainIs = some (Rows.journalsPlayCard.stood.harness.1, Rows.journalsPlayCard.stood.harness.2.toList) := by kernel_rfl
theorem journalsPlay_looks : true = Tryz.pinned.checked.prog.looks [] := by kernel_rfl
theorem journalsPlay_goes : false = Rows.journalsPlayRow.goesBy Tryz.pinned.checked.prog := by kernel_rfl
theorem journalsPlay_named : Tryz.prog.funcNamed "bucketline/bucketlinelaw06.JournalsPlay" = some 4 := by kernel_rfl
theorem journalsPlay_stand : (Tryz.f4.params.all fun u => !Tryz.prog.wantsStandIn u) = true := by kernel_rfl
end Go.Proofs.YtcakdaadbpimaaaGreatDoor
