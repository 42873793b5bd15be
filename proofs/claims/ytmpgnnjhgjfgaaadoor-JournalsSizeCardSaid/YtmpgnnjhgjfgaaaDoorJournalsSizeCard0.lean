/- JournalsSize: the card's closed facts, one by one (in one declaration the kernel runs out of memory): plain lemmas. -/
import Derived.Test.YtmpgnnjhgjfgaaaDoorTie
import Derived.Test.YtmpgnnjhgjfgaaaDoorCards
import Derived.Test.YtmpgnnjhgjfgaaaDoorJournalsSizeRow
import Derived.SevenTiedAt
namespace Go.Proofs.YtmpgnnjhgjfgaaaDoor
open Go.ChangeShapes Go.WideShapes Go.ChangeAt Go.RowKit
theorem journalsSize_text : Rows.journalsSizeRow.wfByText (OpenSpec.ofChange Rows.journalsSizeSpec) = true := by kernel_rfl
theorem journalsSize_main : Tryd.pinned.checked.prog.mainIs = some (Rows.journalsSizeCard.stood.harness.1, Rows.journalsSizeCard.stood.harness.2.toList) := by kernel_rfl
theorem journalsSize_looks : true = Tryd.pinned.checked.prog.looks [] := by kernel_rfl
theorem journalsSize_goes : false = Rows.journalsSizeRow.goesBy Tryd.pinned.checked.prog := by kernel_rfl
theorem journalsSize_named : Tryd.prog.funcNamed "bucketline/bucketlinelaw06.JournalsSize" = some 4 := by kernel_rfl
theorem journalsSize_stand : (Tryd.f4.params.all fun u => !Tryd.prog.wantsStandIn u) = true := by kernel_rfl
end Go.Proofs.YtmpgnnjhgjfgaaaDoor
