/- DecidersSure: the card's closed facts, one by one (in one declaration the kernel runs out of memory): plain lemmas. -/
import Derived.Test.YtkdiejbpleojnaaGreatDoorTie
import Derived.Test.YtkdiejbpleojnaaGreatDoorCards
import Derived.Test.YtkdiejbpleojnaaGreatDoorDecidersSureRow
import Derived.SevenTiedAt
namespace Go.Proofs.YtkdiejbpleojnaaGreatDoor
open Go.ChangeShapes Go.WideShapes Go.ChangeAt Go.RowKit
theorem decidersSure_text : Rows.decidersSureRow.wfByText (OpenSpec.ofChange Rows.decidersSureSpec) = true := by kernel_rfl
theorem decidersSure_main : Tryz.pinned.checked.prog.mainIs = some (Rows.decidersSureCard.stood.harness.1, Rows.decidersSureCard.stood.harness.2.toList) := by kernel_rfl
theorem decidersSure_looks : true = Tryz.pinned.checked.prog.looks [] := by kernel_rfl
theorem decidersSure_goes : false = Rows.decidersSureRow.goesBy Tryz.pinned.checked.prog := by kernel_rfl
theorem decidersSure_named : Tryz.prog.funcNamed "bucketline/bucketlinelaw19.DecidersSure" = some 6 := by kernel_rfl
theorem decidersSure_stand : (Tryz.f6.params.all fun u => !Tryz.prog.wantsStandIn u) = true := by kernel_rfl
end Go.Proofs.YtkdiejbpleojnaaGreatDoor
