/- JournalsTurned: the card's closed facts, one by one (in one declaration the kernel runs out of memory): plain lemmas. -/
import Derived.Test.YtmpgnnjhgjfgaaaDoorTie
import Derived.Test.YtmpgnnjhgjfgaaaDoorCards
import Derived.Test.YtmpgnnjhgjfgaaaDoorJournalsTurnedRow
import Derived.SevenTiedAt
namespace Go.Proofs.YtmpgnnjhgjfgaaaDoor
open Go.ChangeShapes Go.WideShapes Go.ChangeAt Go.RowKit
theorem journalsTurned_text : Rows.journalsTurnedRow.wfByText (OpenSpec.ofChange Rows.journalsTurnedSpec) = true := by kernel_rfl
theorem journalsTurned_main : Tryd.pinned.checked.prog.mainIs = some (Rows.journalsTurnedCard.stood.harness.1, Rows.journalsTurnedCard.stood.harness.2.toList) := by kernel_rfl
theorem journalsTurned_looks : true = Tryd.pinned.checked.prog.looks [] := by kernel_rfl
theorem journalsTurned_goes : false = Rows.journalsTurnedRow.goesBy Tryd.pinned.checked.prog := by kernel_rfl
theorem journalsTurned_named : Tryd.prog.funcNamed "bucketline/bucketlinelaw06.JournalsTurned" = some 6 := by kernel_rfl
theorem journalsTurned_stand : (Tryd.f6.params.all fun u => !Tryd.prog.wantsStandIn u) = true := by kernel_rfl
end Go.Proofs.YtmpgnnjhgjfgaaaDoor
