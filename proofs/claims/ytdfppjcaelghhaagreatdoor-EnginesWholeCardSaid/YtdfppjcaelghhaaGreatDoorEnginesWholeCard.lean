/- EnginesWhole answers true at every input and leaves its arguments as they were: the tied card, as given, with no condition of its own. -/
import Derived.Test.YtdfppjcaelghhaaGreatDoorEnginesWholeCard0
namespace Go.Proofs.YtdfppjcaelghhaaGreatDoor
open Go.ChangeShapes Go.WideShapes Go.ChangeAt Go.RowKit
theorem gY:Rows.EnginesWholeCardSaid :=
 Claim7.holds_tied_plain_at .later [] [.data,.data,.data,.data,.sentinel,.sentinel,.pinned] true Rows.enginesWholeCard.stood.harness true iI (fun _ h=>by cases h) iy (fun _ h=>by cases h) enginesWhole_row_tie rfl ⟨rfl,rfl⟩ iw rfl
  (fun f B E z=>by
    obtain rfl:f=5:=X5 (ic.symm.trans E) |>.symm;obtain rfl:B=Tryz.f5:=(X5 (Tryz.func5.symm.trans z)).symm
    exact⟨gZ,fun j t ht=>by
     rw[Tryz.params5]at ht;have I:=Array.mem_of_getElem? ht;have y:(Tryz.f5.params.all fun u => !Tryz.prog.wantsStandIn u)=true:=ig;rw[Tryz.params5]at y;have:=Xr.1 y t I
     exact(show Tryz.prog.wantsStandIn t=false by simpa using this)⟩)
  iq
#print axioms gY
end Go.Proofs.YtdfppjcaelghhaaGreatDoor
