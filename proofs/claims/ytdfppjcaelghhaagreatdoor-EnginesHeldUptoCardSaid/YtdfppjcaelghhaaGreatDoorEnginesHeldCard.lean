/- EnginesHeld answers true at every input and leaves its arguments as they were: the tied card, as given, with no condition of its own. -/
import Derived.Test.YtdfppjcaelghhaaGreatDoorEnginesHeldCard0
namespace Go.Proofs.YtdfppjcaelghhaaGreatDoor
open Go.ChangeShapes Go.WideShapes Go.ChangeAt Go.RowKit
theorem vp:Rows.EnginesHeldUptoCardSaid :=
 Claim7.holds_tied_plain_at .later [] [.data,.data,.data,.data,.sentinel,.sentinel,.pinned] true Rows.enginesHeldUptoCard.stood.harness true ye (fun _ h=>by cases h) wC (fun _ h=>by cases h) enginesHeldUpto_row_tie rfl ⟨rfl,rfl⟩ wB rfl
  (fun f B E z=>by
    obtain rfl:f=3:=X5 (vt.symm.trans E) |>.symm;obtain rfl:B=Tryz.f3:=(X5 (Tryz.func3.symm.trans z)).symm
    exact⟨vq,fun j t ht=>by
     rw[Tryz.params3]at ht;have I:=Array.mem_of_getElem? ht;have y:(Tryz.f3.params.all fun u => !Tryz.prog.wantsStandIn u)=true:=vw;rw[Tryz.params3]at y;have:=Xr.1 y t I
     exact(show Tryz.prog.wantsStandIn t=false by simpa using this)⟩)
  wA
#print axioms vp
end Go.Proofs.YtdfppjcaelghhaaGreatDoor
