/- FilesApart: the card's closed facts, one by one (in one declaration the kernel runs out of memory): plain lemmas. -/
import Derived.Test.YtabekogiaobnfaaDoorTie
import Derived.Test.YtabekogiaobnfaaDoorCards
import Derived.Test.YtabekogiaobnfaaDoorFilesApartRow
import Derived.SevenTiedAt
namespace Go.Proofs.YtabekogiaobnfaaDoor
open Go.ChangeShapes Go.WideShapes Go.ChangeAt Go.RowKit
theorem filesApart_text : Rows.filesApartRow.wfByText (OpenSpec.ofChange Rows.filesApartSpec) = true := by kernel_rfl
theorem filesApart_main : Tryd.pinned.checked.prog.mainIs = some (Rows.filesApartCard.stood.harness.1, Rows.filesApartCard.stood.harness.2.toList) := by kernel_rfl
theorem filesApart_looks : true = Tryd.pinned.checked.prog.looks [] := by kernel_rfl
theorem filesApart_goes : false = Rows.filesApartRow.goesBy Tryd.pinned.checked.prog := by kernel_rfl
theorem filesApart_named : Tryd.prog.funcNamed "bucketline/bucketlinelaw05.FilesApart" = some 11 := by kernel_rfl
theorem filesApart_stand : (Tryd.f11.params.all fun u => !Tryd.prog.wantsStandIn u) = true := by kernel_rfl
end Go.Proofs.YtabekogiaobnfaaDoor
