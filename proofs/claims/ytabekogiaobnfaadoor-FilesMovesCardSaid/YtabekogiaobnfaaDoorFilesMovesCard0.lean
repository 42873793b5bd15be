/- FilesMoves: the card's closed facts, one by one (in one declaration the kernel runs out of memory): plain lemmas. -/
import Derived.Test.YtabekogiaobnfaaDoorTie
import Derived.Test.YtabekogiaobnfaaDoorCards
import Derived.Test.YtabekogiaobnfaaDoorFilesMovesRow
import Derived.SevenTiedAt
namespace Go.Proofs.YtabekogiaobnfaaDoor
open Go.ChangeShapes Go.WideShapes Go.ChangeAt Go.RowKit
theorem filesMoves_text : Rows.filesMovesRow.wfByText (OpenSpec.ofChange Rows.filesMovesSpec) = true := by kernel_rfl
theorem filesMoves_main : Tryd.pinned.checked.prog.mainIs = some (Rows.filesMovesCard.stood.harness.1, Rows.filesMovesCard.stood.harness.2.toList) := by kernel_rfl
theorem filesMoves_looks : true = Tryd.pinned.checked.prog.looks [] := by kernel_rfl
theorem filesMoves_goes : false = Rows.filesMovesRow.goesBy Tryd.pinned.checked.prog := by kernel_rfl
theorem filesMoves_named : Tryd.prog.funcNamed "bucketline/bucketlinelaw05.FilesMoves" = some 10 := by kernel_rfl
theorem filesMoves_stand : (Tryd.f10.params.all fun u => !Tryd.prog.wantsStandIn u) = true := by kernel_rfl
end Go.Proofs.YtabekogiaobnfaaDoor
