/- DecidersRise: the card's closed facts, one by one (in one declaration the kernel runs out of memory): plain lemmas. -/
import Derived.Test.YtkdiejbpleojnaaGreatDoorTie
import Derived.Test.YtkdiejbpleojnaaGreatDoorCards
import Derived.Test.YtkdiejbpleojnaaGreatDoorDecidersRiseRow
import Derived.SevenTiedAt
namespace Go.Proofs.YtkdiejbpleojnaaGreatDoor
open Go.ChangeShapes Go.WideShapes Go.ChangeAt Go.RowKit
theorem decidersRise_text : Rows.decidersRiseRow.wfByText (OpenSpec.ofChange Rows.decidersRiseSpec) = true := by kernel_rfl
theorem decidersRise_main : Tryz.pinned.checked.prog.mainIs = some (Rows.decidersRiseCard.stood.harness.1, Rows.decidersRiseCard.stood.harness.2.toList) := by kernel_rfl
theorem decidersRise_looks : true = Tryz.pinned.checked.prog.looks [] := by kernel_rfl
theorem decidersRise_goes : false = Rows.decidersRiseRow.goesBy Tryz.pinned.checked.prog := by kernel_rfl
theorem decidersRise_named : Tryz.prog.funcNamed "bucketline/bucketlinelaw19.DecidersRise" = some 5 := by kernel_rfl
theorem decidersRise_stand : (Tryz.f5.params.all fun u => !Tryz.prog.wantsStandIn u) = true := by kernel_rfl
end Go.Proofs.YtkdiejbpleojnaaGreatDoor
