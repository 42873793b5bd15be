/- The card, as given. -/
import Derived.Test.YtdfppjcaelghhaaGreatDoorEnginesCompactCard0
namespace Go.Proofs.YtdfppjcaelghhaaGreatDoor
open Go.ChangeShapes Go.WideShapes Go.ChangeAt Go.RowKit
theorem Pr:Rows.EnginesCompactUptoCardSaid :=
 Claim7.holds_tied_plain_at .later [] [.data,.data,.data,.data,.sentinel,.sentinel,.pinned] true Rows.enginesCompactUptoCard.stood.harness true PC (fun _ h=>by cases h) PA (fun _ h=>by cases h) enginesCompactUpto_row_tie rfl ⟨rfl,rfl⟩ Pz rfl
  (fun f B E z=>by
    obtain rfl:f=4:=X5 (Pu.symm.trans E) |>.symm;obtain rfl:B=Tryz.f4:=(X5 (Tryz.func4.symm.trans z)).symm
    exact⟨Ps,fun j t ht=>by
     rw[Tryz.params4]at ht;have I:=Array.mem_of_getElem? ht;have y:(Tryz.f4.params.all fun u => !Tryz.prog.wantsStandIn u)=true:=Pw;rw[Tryz.params4]at y;have:=Xr.1 y t I
     exact(show Tryz.prog.wantsStandIn t=false by simpa using this)⟩)
  Py
#print axioms Pr
end Go.Proofs.YtdfppjcaelghhaaGreatDoor
