/- ManifestsFull: the card's closed facts, one by one (in one declaration the kernel runs out of memory): plain lemmas. -/
import Derived.Test.YtmhlebpchllpbaaGreatDoorTie
import Derived.Test.YtmhlebpchllpbaaGreatDoorCards
import Derived.Test.YtmhlebpchllpbaaGreatDoorManifestsFullRow
import Derived.SevenTiedAt
namespace Go.Proofs.YtmhlebpchllpbaaGreatDoor
open Go.ChangeShapes Go.WideShapes Go.ChangeAt Go.RowKit
theorem manifestsFull_text : Rows.manifestsFullUptoRow.wfByText (Rows.OpenSpec.upto Rows.manifestsFullSpec) = true := by kernel_rfl
theorem manifestsFull_main : Tryz.pinned.checked.prog.mainIs = some (Rows.manifestsFullUptoCard.stood.harness.1, Rows.manifestsFullUptoCard.stood.harness.2.toList) := by kernel_rfl
theorem manifestsFull_looks : true = Tryz.pinned.checked.prog.looks [] := by kernel_rfl
theorem manifestsFull_goes : false = Rows.manifestsFullUptoRow.goesBy Tryz.pinned.checked.prog := by kernel_rfl
theorem manifestsFull_named : Tryz.prog.funcNamed "bucketline/bucketlinelaw14.ManifestsFull" = some 3 := by kernel_rfl
theorem manifestsFull_stand : (Tryz.f3.params.all fun u => !Tryz.prog.wantsStandIn u) = true := by kernel_rfl
end Go.Proofs.YtmhlebpchllpbaaGreatDoor
