/- Plain lemmas and contracts; the conditions are in each. -/
import Derived.Test.YtdfppjcaelghhaaGreatDoorEnKG
namespace Go.Proofs.YtdfppjcaelghhaaGreatDoor
open Go.RowKit Go.Sl
attribute [local go_sem] ab bj bh bd
instance OB:U64.od Tryz.prog 64:=⟨by kernel_rfl,by kernel_rfl,fun w=>by kernel_rfl⟩
theorem iL (rs:List cQ)(B:Option Addr)(c n:Nat)(x:List ao)(h:x.length=n):et (rs++[⟨B,c,x⟩])=et rs++[.slice B n c]:=by
 subst h;unfold et;rw[ZP];rfl
def gF:Prop:=∀(e p J z E t I:Nat)(A:Option Addr)(c:Nat)(v:eN)(B N K:Nat)(tl:Int),cv v B N K->K<=5->v.T=[]->N<=2300->v.D.size=8388608->(tl=1\/tl=3)->B+8<=1000000->v.k.files.length<=c->∀(w w0:World)(F:ba),Mod w w0 (o6 e p J z E t I A c v F)->fX F ->
    Calls Tryz.prog 41 #[ap e,.int .i64 0,.int .i64 tl] w fun M O=>M=.returned (.tuple #[])/\∃(v':eN)(y:Nat)(A':Option Addr)(c':Nat),cv v' (B+8) N 0/\CH tl v v'/\v'.k.files.length<=c'/\Mod O w0 (o6 e p J y E t I A' c' v' F)
end Go.Proofs.YtdfppjcaelghhaaGreatDoor
