/- The card's closed facts. -/
import Derived.Test.YtdfppjcaelghhaaGreatDoorEnginesCompactRow
namespace Go.Proofs.YtdfppjcaelghhaaGreatDoor
open Go.ChangeShapes Go.WideShapes Go.ChangeAt Go.RowKit
theorem PA:Rows.enginesCompactUptoRow.wfByText (Rows.OpenSpec.upto Rows.enginesCompactSpec)=true:=by kernel_rfl
theorem Pz:Tryz.pinned.checked.prog.mainIs=some (Rows.enginesCompactUptoCard.stood.harness.1,Rows.enginesCompactUptoCard.stood.harness.2.toList):=by kernel_rfl
theorem Ps:true=Tryz.pinned.checked.prog.looks []:=by kernel_rfl
theorem Py:false=Rows.enginesCompactUptoRow.goesBy Tryz.pinned.checked.prog:=by kernel_rfl
theorem Pu:Tryz.prog.funcNamed "bucketline/bucketlinelaw15.EnginesCompact"=some 4:=by kernel_rfl
theorem Pw:(Tryz.f4.params.all fun u => !Tryz.prog.wantsStandIn u)=true:=by kernel_rfl
end Go.Proofs.YtdfppjcaelghhaaGreatDoor
