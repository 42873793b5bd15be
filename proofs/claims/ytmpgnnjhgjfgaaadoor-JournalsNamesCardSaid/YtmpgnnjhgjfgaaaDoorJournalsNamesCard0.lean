/- JournalsNames: the card's closed facts, one by one (in one declaration the kernel runs out of memory): plain lemmas. -/
import Derived.Test.YtmpgnnjhgjfgaaaDoorTie
import Derived.Test.YtmpgnnjhgjfgaaaDoorCards
import Derived.Test.YtmpgnnjhgjfgaaaDoorJournalsNamesRow
import Derived.SevenTiedAt
namespace Go.Proofs.YtmpgnnjhgjfgaaaDoor
open Go.ChangeShapes Go.WideShapes Go.ChangeAt Go.RowKit
theorem journalsNames_text : Rows.journalsNamesRow.wfByText (OpenSpec.ofChange Rows.journalsNamesSpec) = true := by kernel_rfl
theorem journalsNames_main : Tryd.pinned.checked.prog.mainIs = some (Rows.journalsNamesCard.stood.harness.1, Rows.journalsNamesCard.stood.harness.2.toList) := by kernel_rfl
theorem journalsNames_looks : true = Tryd.pinned.checked.prog.looks [] := by kernel_rfl
theorem journalsNames_goes : false = Rows.journalsNamesRow.goesBy Tryd.pinned.checked.prog := by kernel_rfl
theorem journalsNames_named : Tryd.prog.funcNamed "bucketline/bucketlinelaw06.JournalsNames" = some 9 := by kernel_rfl
theorem journalsNames_stand : (Tryd.f9.params.all fun u => !Tryd.prog.wantsStandIn u) = true := by kernel_rfl
end Go.Proofs.YtmpgnnjhgjfgaaaDoor
