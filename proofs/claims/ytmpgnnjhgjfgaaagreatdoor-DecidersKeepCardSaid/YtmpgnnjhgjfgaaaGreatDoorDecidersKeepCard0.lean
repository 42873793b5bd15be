/- DecidersKeep: the card's closed facts, one by one (in one declaration the kernel runs out of memory): plain lemmas. -/
import Derived.Test.YtmpgnnjhgjfgaaaGreatDoorTie
import Derived.Test.YtmpgnnjhgjfgaaaGreatDoorCards
import Derived.Test.YtmpgnnjhgjfgaaaGreatDoorDecidersKeepRow
import Derived.SevenTiedAt
namespace Go.Proofs.YtmpgnnjhgjfgaaaGreatDoor
open Go.ChangeShapes Go.WideShapes Go.ChangeAt Go.RowKit
theorem decidersKeep_text : Rows.decidersKeepRow.wfByText (OpenSpec.ofChange Rows.decidersKeepSpec) = true := by kernel_rfl
theorem decidersKeep_main : Tryz.pinned.checked.prog.mainIs = some (Rows.decidersKeepCard.stood.harness.1, Rows.decidersKeepCard.stood.harness.2.toList) := by kernel_rfl
theorem decidersKeep_looks : true = Tryz.pinned.checked.prog.looks [] := by kernel_rfl
theorem decidersKeep_goes : false = Rows.decidersKeepRow.goesBy Tryz.pinned.checked.prog := by kernel_rfl
theorem decidersKeep_named : Tryz.prog.funcNamed "bucketline/bucketlinelaw19.DecidersKeep" = some 4 := by kernel_rfl
theorem decidersKeep_stand : (Tryz.f4.params.all fun u => !Tryz.prog.wantsStandIn u) = true := by kernel_rfl
end Go.Proofs.YtmpgnnjhgjfgaaaGreatDoor
