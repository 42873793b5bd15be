/- EnginesHeld: the card's closed facts, one by one (in one declaration the kernel runs out of memory): plain lemmas. -/
import Derived.Test.YtdfppjcaelghhaaGreatDoorEnginesHeldRow
namespace Go.Proofs.YtdfppjcaelghhaaGreatDoor
open Go.ChangeShapes Go.WideShapes Go.ChangeAt Go.RowKit
theorem wC:Rows.enginesHeldUptoRow.wfByText (Rows.OpenSpec.upto Rows.enginesHeldSpec)=true:=by kernel_rfl
theorem wB:Tryz.pinned.checked.prog.mainIs=some (Rows.enginesHeldUptoCard.stood.harness.1,Rows.enginesHeldUptoCard.stood.harness.2.toList):=by kernel_rfl
theorem vq:true=Tryz.pinned.checked.prog.looks []:=by kernel_rfl
theorem wA:false=Rows.enginesHeldUptoRow.goesBy Tryz.pinned.checked.prog:=by kernel_rfl
theorem vt:Tryz.prog.funcNamed "bucketline/bucketlinelaw15.EnginesHeld"=some 3:=by kernel_rfl
theorem vw:(Tryz.f3.params.all fun u => !Tryz.prog.wantsStandIn u)=true:=by kernel_rfl
end Go.Proofs.YtdfppjcaelghhaaGreatDoor
