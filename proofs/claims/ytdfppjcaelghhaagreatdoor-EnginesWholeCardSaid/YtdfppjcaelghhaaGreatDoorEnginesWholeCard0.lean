/- EnginesWhole: the card's closed facts, one by one (in one declaration the kernel runs out of memory): plain lemmas. -/
import Derived.Test.YtdfppjcaelghhaaGreatDoorEnginesWholeRow
namespace Go.Proofs.YtdfppjcaelghhaaGreatDoor
open Go.ChangeShapes Go.WideShapes Go.ChangeAt Go.RowKit
theorem iy:Rows.enginesWholeRow.wfByText (OpenSpec.ofChange Rows.enginesWholeSpec)=true:=kRf
theorem iw:Tryz.pinned.checked.prog.mainIs=some (Rows.enginesWholeCard.stood.harness.1,Rows.enginesWholeCard.stood.harness.2.toList):=kRf
theorem gZ:true=Tryz.pinned.checked.prog.looks []:=kRf
theorem iq:false=Rows.enginesWholeRow.goesBy Tryz.pinned.checked.prog:=kRf
theorem ic:Tryz.prog.funcNamed "bucketline/bucketlinelaw15.EnginesWhole"=some 5:=kRf
theorem ig:(Tryz.f5.params.all fun u => !Tryz.prog.wantsStandIn u)=true:=kRf
end Go.Proofs.YtdfppjcaelghhaaGreatDoor
