/- DecidersHolder: the card's closed facts, one by one (in one declaration the kernel runs out of memory): plain lemmas. -/
import Derived.Test.YtmpgnnjhgjfgaaaGreatDoorTie
import Derived.Test.YtmpgnnjhgjfgaaaGreatDoorCards
import Derived.Test.YtmpgnnjhgjfgaaaGreatDoorDecidersHolderRow
import Derived.SevenTiedAt
namespace Go.Proofs.YtmpgnnjhgjfgaaaGreatDoor
open Go.ChangeShapes Go.WideShapes Go.ChangeAt Go.RowKit
theorem decidersHolder_text : Rows.decidersHolderRow.wfByText (OpenSpec.ofChange Rows.decidersHolderSpec) = true := by kernel_rfl
theorem decidersHolder_main : Tryz.pinned.checked.prog.mainIs = some (Rows.decidersHolderCard.stood.harness.1, Rows.decidersHolderCard.stood.harness.2.toList) := by kernel_rfl
theorem decidersHolder_looks : true = Tryz.pinned.checked.prog.looks [] := by kernel_rfl
theorem decidersHolder_goes : false = Rows.decidersHolderRow.goesBy Tryz.pinned.checked.prog := by kernel_rfl
theorem decidersHolder_named : Tryz.prog.funcNamed "bucketline/bucketlinelaw19.DecidersHolder" = some 3 := by kernel_rfl
theorem decidersHolder_stand : (Tryz.f3.params.all fun u => !Tryz.prog.wantsStandIn u) = true := by kernel_rfl
end Go.Proofs.YtmpgnnjhgjfgaaaGreatDoor
