/- ManifestsUndo: the card's closed facts, one by one (in one declaration the kernel runs out of memory): plain lemmas. -/
import Derived.Test.YtmhlebpchllpbaaGreatDoorTie
import Derived.Test.YtmhlebpchllpbaaGreatDoorCards
import Derived.Test.YtmhlebpchllpbaaGreatDoorManifestsUndoRow
import Derived.SevenTiedAt
namespace Go.Proofs.YtmhlebpchllpbaaGreatDoor
open Go.ChangeShapes Go.WideShapes Go.ChangeAt Go.RowKit
theorem manifestsUndo_text : Rows.manifestsUndoUptoRow.wfByText (Rows.OpenSpec.upto Rows.manifestsUndoSpec) = true := by kernel_rfl
theorem manifestsUndo_main : Tryz.pinned.checked.prog.mainIs = some (Rows.manifestsUndoUptoCard.stood.harness.1, Rows.manifestsUndoUptoCard.stood.harness.2.toList) := by kernel_rfl
theorem manifestsUndo_looks : true = Tryz.pinned.checked.prog.looks [] := by kernel_rfl
theorem manifestsUndo_goes : false = Rows.manifestsUndoUptoRow.goesBy Tryz.pinned.checked.prog := by kernel_rfl
theorem manifestsUndo_named : Tryz.prog.funcNamed "bucketline/bucketlinelaw14.ManifestsUndo" = some 4 := by kernel_rfl
theorem manifestsUndo_stand : (Tryz.f4.params.all fun u => !Tryz.prog.wantsStandIn u) = true := by kernel_rfl
end Go.Proofs.YtmhlebpchllpbaaGreatDoor
