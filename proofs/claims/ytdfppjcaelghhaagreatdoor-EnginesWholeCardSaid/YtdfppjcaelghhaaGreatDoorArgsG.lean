/- Plain lemmas and contracts; the conditions are in each. -/
import Derived.Deep.Grids
import Derived.Deep.Matrix
import Derived.Deep.Strs
import Derived.Test.YtdfppjcaelghhaaGreatDoorNamesG
set_option maxRecDepth 100000
namespace Go.Proofs.YtdfppjcaelghhaaGreatDoor
open Go.ChangeShapes Go.WideShapes Go.ChangeAt Go.RowKit Go.Sl Go.Deep
theorem pw {W:World}{a:Addr}{n:Nat}{xs:List Value}(E:xs.length=n)(h:∀i v,xs[i]?=some v->W.cell? (a.add i)=some v):bk (vG (hp W)) (some a) n xs:=by
 refine⟨fun _ _=>E,fun x z hn=>?_⟩;have z:x=hp W:=z
 have B:a.spot=none:=by
  have y:=h 0 xs[0] (by simp);rw[show a.add 0=a from rfl]at y;unfold World.cell? at y
  split at y
  ·split at y
   ·cases y
   ·rename_i h1;simpa using h1
  ·cases y
 refine⟨a,rfl,B,fun j u I=>?_⟩;have y:=h j u I;rw[jl a j B]at y;unfold World.cell? at y
 split at y
 ·rename_i c e f hc
  simp only[Option.isSome_none,YH,if_false]at y;exact⟨c,e,f,by rw[z];exact hc,y⟩
 ·cases y
theorem qF {S:ba}:bk S none 0 []:=bk.jE none
section
variable {H:Type}{enc:TypeId×Value->H}{W:World}{base:Nat}{spare:Nat->Bool}{held:Bool}{a:Option Addr}{n c:Nat}{d:DataW H}{p:List MemPlace}
theorem N6 {b:Bool}{m:Nat}(z:n<=c)(y:m=if b then c else n):n<=m:=by rw[y];split <;> omega
theorem FG:Tryz.prog.cellsOf 4=1:=kRf
end
open Go.RowKit Go.Sl
attribute [local go_sem] ab bh bd
theorem ct {S' S:ba}{A:Option Addr}{n:Nat}{xs:List Value}(s:Sub S' S)(r:bk S A n xs):bk S' A n xs:=by
 have key:∀h,S'.says h->∃a,S.says a/\∀k o,a k=some o->h k=some o:=by
  intro h z;obtain⟨a,b,_,O,y,_⟩:=s.sub h ⟨h,Hp.none,fun _=>.inr rfl,by funext k;simp[Hp.join,Hp.none],z,trivial⟩;exact⟨a,y,fun k o B=>by rw[O];simp[Hp.join,B]⟩
 refine⟨fun h z=>by obtain⟨a,y,_⟩:=key h z;exact r.len a y,fun h z hn=>?_⟩;obtain⟨a,y,B⟩:=key h z;obtain⟨ad,E,I,J⟩:=r.cell a y hn;exact⟨ad,E,I,fun j u U=>by obtain⟨c,e,f,K,M⟩:=J j u U;exact⟨c,e,f,B _ _ K,M⟩⟩
open Go.ChangeShapes Go.WideShapes Go.ChangeAt Go.RowKit Go.Sl Go.Deep
theorem I2:Tryz.prog.cellsOf 3=1:=kRf
end Go.Proofs.YtdfppjcaelghhaaGreatDoor
