/- JournalsSure: the card's closed facts, one by one (in one declaration the kernel runs out of memory): plain lemmas. -/
import Derived.Test.YtmpgnnjhgjfgaaaDoorTie
import Derived.Test.YtmpgnnjhgjfgaaaDoorCards
import Derived.Test.YtmpgnnjhgjfgaaaDoorJournalsSureRow
import Derived.SevenTiedAt
namespace Go.Proofs.YtmpgnnjhgjfgaaaDoor
open Go.ChangeShapes Go.WideShapes Go.ChangeAt Go.RowKit
theorem journalsSure_text : Rows.journalsSureRow.wfByText (OpenSpec.ofChange Rows.journalsSureSpec) = true := by kernel_rfl
theorem journalsSure_main : Tryd.pinned.checked.prog.mainIs = some (Rows.journalsSureCard.stood.harness.1, Rows.journalsSureCard.stood.harness.2.toList) := by kernel_rfl
theorem journalsSure_looks : true = Tryd.pinned.checked.prog.looks [] := by kernel_rfl
theorem journalsSure_goes : false = Rows.journalsSureRow.goesBy Tryd.pinned.checked.prog := by kernel_rfl
theorem journalsSure_named : Tryd.prog.funcNamed "bucketline/bucketlinelaw06.JournalsSure" = some 7 := by kernel_rfl
theorem journalsSure_stand : (Tryd.f7.params.all fun u => !Tryd.prog.wantsStandIn u) = true := by kernel_rfl
end Go.Proofs.YtmpgnnjhgjfgaaaDoor
