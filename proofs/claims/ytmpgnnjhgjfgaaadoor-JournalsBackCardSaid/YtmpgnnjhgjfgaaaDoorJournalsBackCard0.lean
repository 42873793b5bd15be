/- JournalsBack: the card's closed facts, one by one (in one declaration the kernel runs out of memory): plain lemmas. -/
import Derived.Test.YtmpgnnjhgjfgaaaDoorTie
import Derived.Test.YtmpgnnjhgjfgaaaDoorCards
import Derived.Test.YtmpgnnjhgjfgaaaDoorJournalsBackRow
import Derived.SevenTiedAt
namespace Go.Proofs.YtmpgnnjhgjfgaaaDoor
open Go.ChangeShapes Go.WideShapes Go.ChangeAt Go.RowKit
theorem journalsBack_text : Rows.journalsBackRow.wfByText (OpenSpec.ofChange Rows.journalsBackSpec) = true := by kernel_rfl
theorem journalsBack_main : Tryd.pinned.checked.prog.mainIs = some (Rows.journalsBackCard.stood.harness.1, Rows.journalsBackCard.stood.harness.2.toList) := by kernel_rfl
theorem journalsBack_looks : true = Tryd.pinned.checked.prog.looks [] := by kernel_rfl
theorem journalsBack_goes : false = Rows.journalsBackRow.goesBy Tryd.pinned.checked.prog := by kernel_rfl
theorem journalsBack_named : Tryd.prog.funcNamed "bucketline/bucketlinelaw06.JournalsBack" = some 3 := by kernel_rfl
theorem journalsBack_stand : (Tryd.f3.params.all fun u => !Tryd.prog.wantsStandIn u) = true := by kernel_rfl
end Go.Proofs.YtmpgnnjhgjfgaaaDoor
