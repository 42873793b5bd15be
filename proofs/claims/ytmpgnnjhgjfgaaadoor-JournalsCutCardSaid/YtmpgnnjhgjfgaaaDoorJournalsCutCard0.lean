/- JournalsCut: the card's closed facts, one by one (in one declaration the kernel runs out of memory): plain lemmas. -/
import Derived.Test.YtmpgnnjhgjfgaaaDoorTie
import Derived.Test.YtmpgnnjhgjfgaaaDoorCards
import Derived.Test.YtmpgnnjhgjfgaaaDoorJournalsCutRow
import Derived.SevenTiedAt
namespace Go.Proofs.YtmpgnnjhgjfgaaaDoor
open Go.ChangeShapes Go.WideShapes Go.ChangeAt Go.RowKit
theorem journalsCut_text : Rows.journalsCutRow.wfByText (OpenSpec.ofChange Rows.journalsCutSpec) = true := by kernel_rfl
theorem journalsCut_main : Tryd.pinned.checked.prog.mainIs = some (Rows.journalsCutCard.stood.harness.1, Rows.journalsCutCard.stood.harness.2.toList) := by kernel_rfl
theorem journalsCut_looks : true = Tryd.pinned.checked.prog.looks [] := by kernel_rfl
theorem journalsCut_goes : false = Rows.journalsCutRow.goesBy Tryd.pinned.checked.prog := by kernel_rfl
theorem journalsCut_named : Tryd.prog.funcNamed "bucketline/bucketlinelaw06.JournalsCut" = some 5 := by kernel_rfl
theorem journalsCut_stand : (Tryd.f5.params.all fun u => !Tryd.prog.wantsStandIn u) = true := by kernel_rfl
end Go.Proofs.YtmpgnnjhgjfgaaaDoor
