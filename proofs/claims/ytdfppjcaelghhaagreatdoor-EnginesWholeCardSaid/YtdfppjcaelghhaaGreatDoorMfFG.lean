/- Plain lemmas and contracts; the conditions are in each. -/
import Derived.Deep.DeepHandedRow
import Derived.LaidMore
import Derived.Lay
import Derived.MakeChecks
import Derived.Stop.Joined
import Derived.Stop.LaidErr
import Derived.Test.YtdfppjcaelghhaaGreatDoorEnGG
set_option maxRecDepth 100000
namespace Go.Proofs.YtdfppjcaelghhaaGreatDoor
open Go.ChangeShapes Go.WideShapes Go.ChangeAt Go.RowKit Go.Sl Go.Deep
theorem iZ:∀(l:List bi)(i:Nat)(v:Value),(l.flatMap bi.cells)[i]?=some v->∃h:i / 4<l.length,(l[i / 4].cells)[i%4]?=some v
 | [],i,_,h=>by simp at h
 | x::l,i,v,h=>by
   have B:x.cells.length=4:=rfl;rw[Zp]at h;by_cases I:i<4
   ·rw[Yz (by rw[B];exact I)]at h
    have y:i / 4=0:=oMg
    have z:i%4=i:=oMg
    refine⟨by rw[y];simp,?_⟩;simp only[y,z,List.getElem_cons_zero];exact h
   ·rw[Z7 (by rw[B];omega),B]at h
    obtain⟨J,E⟩:=iZ l (i-4) v h;have y:i / 4=(i-4) / 4+1:=oMg
    have z:i%4=(i-4)%4:=oMg
    refine⟨by rw[y,List.length_cons];omega,?_⟩;simp only[y,z,List.getElem_cons_succ];exact E
theorem FF:Tryz.prog.cellsOf 42=1:=kRf
theorem xj:Tryz.prog.cellsOf 44=4:=kRf
theorem Nv {k:Int}(h:(Lit.int .u32 k).wf=true):∃n:Nat,k=n/\n<4294967296:=by
 have B:IntKind.u32.min<=k/\k<=IntKind.u32.max:=by simpa [Lit.wf]using h
 have y:IntKind.u32.min=0:=by decide
 have z:IntKind.u32.max=4294967295:=by decide
 rw[y,z]at B;exact⟨k.toNat,oMg,oMg⟩
section
variable {H:Type}{enc:TypeId×Value->H}{W:World}{base:Nat}{held:Bool}
theorem Lr {y:Nat}{cs:List Value}{x:DataW H×List MemPlace}(h2:DataW.trod enc Tryz.prog W base (fun _=>true) held y 44 cs=some x):∃f:bi,cs=f.cells/\f.num<4294967296:=by
 obtain⟨xs,k,hk,aa,z,I,B⟩:=DataW.trod_struct Tryz.underlying44 h2;rw[xj]at z
 match xs,I,cs,z with
 | [y0,y1,y2,y3],_,[v0,v1,v2,v3],_ =>
   have V:=B 0 _ rfl;have Y:=B 1 _ rfl;have Z:=B 2 _ rfl;have g3:=B 3 _ rfl;simp[FF,I2,uZ]at V Y Z g3;obtain⟨n0,K,_,J⟩:=DataW.trod_int Tryz.underlying42 V;obtain⟨n1,M,_,ae⟩:=DataW.trod_int Tryz.underlying3 Y;obtain⟨s2,O,_,af⟩:=DataW.trod_string Tryz.underlying9 Z;obtain⟨s3,U,_,ag⟩:=DataW.trod_string Tryz.underlying9 g3;simp at K M O U;obtain⟨k0,rfl,E⟩:=Nv J;subst K M O U;exact⟨⟨k0,n1,s2,s3⟩,rfl,E⟩
theorem N2 {I:Nat}{v:Value}{x:DataW H×List MemPlace}(h:DataW.trod enc Tryz.prog W base (fun _=>true) held I 40 [v]=some x) :
 ∃(a:Option Addr)(c:Nat)(b:List bi),v=.slice a b.length c/\du (vG (hp W)) a b.length b/\b.length<=c/\(∀y∈b,y.num<4294967296)/\(b=[]\/∃Y sp,x.1=.slice Y sp/\Y.length=b.length):=by
 rcases open_slice Tryz.underlying40 h with⟨J,Z⟩ | ⟨V,E,c',m,k,D,Pl,J,_,hl,hm,U,Z,h3⟩
 ·simp at J
  exact⟨none,0,[],J,⟨rfl,qF⟩,Zm _,by simp,.inl rfl⟩
 ·simp at J
  have aa:=N6 hl U;rw[xj]at h3
  have each:∀i,i<E->∃f:bi,W.cells? base (V.add (i*4)) 4=some f.cells/\f.num<4294967296:=fun i K=>by
   obtain⟨cs,M,O⟩:=h3 i oMg;obtain⟨f,rfl,hf⟩:=Lr O;exact⟨f,M,hf⟩
  have:Inhabited bi:=⟨⟨0,0,⟨#[]⟩,⟨#[]⟩⟩⟩;obtain⟨q,hq⟩:=choose_lt each;have z:((List.range E).map q).length=E:=by simp
  refine⟨some V,c',(List.range E).map q,by rw[z];exact J,⟨rfl,?_⟩,by rw[z];exact hl,fun y hy=>?_,.inr ⟨_,_,by rw[Z],by simp⟩⟩
  ·rw[z]
   refine pw ?_ fun i v hv=>?_
   ·rw[List.length_flatMap]
    have:((List.range E).map q).map (fun x=>x.cells.length)=List.replicate E 4:=by
     apply zba <;> simp[bi.cells]
    rw[this,List.sum_replicate_nat]
   ·obtain⟨M,O⟩:=iZ _ i v hv
    have K:i / 4<E:=by simpa using M
    obtain⟨_,_,B⟩:=World.cells?_some (hq (i / 4) K).1;have h4:i%4<4:=zbe _ oMg;have:=B (i%4) h4;rw[add_add]at this;rw[show i / 4*4+i%4=i by omega]at this;rw[this,<-O];simp
  ·obtain⟨i,K,rfl⟩:=Zz.1 hy
   exact(hq i (XA.1 K)).2
end
open Go.RowKit Go.Sl
theorem GR:(Rows.laid_internal_strconv_uint64pow10:DataW Unit)=Lib.tabData .u64 Lib.pow10Tab:=kRf
theorem EF:(Tryz.prog.globalNamed "internal/strconv.uint64pow10").isSome=true:=kRf
theorem GS:((Tryz.prog.globalNamed "internal/strconv.uint64pow10").bind fun g=>(Tryz.prog.globals[g]?).map (·.type))=some 327:=kRf
theorem Kl:Tryz.prog.cellsOf 29=1:=kRf
theorem EE:Tryz.prog.cellsOf 327=20:=kRf
theorem Fa {W:World}{x y:String×DataW Unit}{rest:List (String×DataW Unit)}(h:laidMet Tryz.prog (x::y::("internal/strconv.uint64pow10",Rows.laid_internal_strconv_uint64pow10)::rest) W):fX (vG (hp W)):=by
 obtain⟨g,B⟩:=YQ.1 EF;have z:=GS;rw[B,Option.bind_some]at z;have I:=h.tail.tail;rw[GR]at I;have ht:=Lib.tabIs_of_head B z Tryz.underlying327 Tryz.underlying29 Kl EE I;refine⟨g,B,fun x E=>?_⟩;have E:x=hp W:=E;subst E;unfold Lib.TabIs World.var? at ht;rw[B,Option.bind_some]at ht
 split at ht
 ·rename_i cs t f hc
  injection ht with ht;exact⟨t,f,by rw[<-ht];exact hc⟩
 ·cases ht
open Go.ChangeShapes Go.WideShapes Go.ChangeAt Go.RowKit Go.Sl Go.Deep
structure ob where
 A:Option Addr
 c:Nat
 l:List lc
abbrev ob.val (x:ob):Value:=.slice x.A x.l.length x.c
theorem BU:∀(l:List lc)(i:Nat)(v:Value),(l.flatMap lc.cells)[i]?=some v->∃h:i / 3<l.length,(l[i / 3].cells)[i%3]?=some v
 | [],i,_,h=>by simp at h
 | x::l,i,v,h=>by
   have B:x.cells.length=3:=rfl;rw[Zp]at h;by_cases I:i<3
   ·rw[Yz (by rw[B];exact I)]at h
    have y:i / 3=0:=oMg
    have z:i%3=i:=oMg
    refine⟨by rw[y];simp,?_⟩;simp only[y,z,List.getElem_cons_zero];exact h
   ·rw[Z7 (by rw[B];omega),B]at h
    obtain⟨J,E⟩:=BU l (i-3) v h;have y:i / 3=(i-3) / 3+1:=oMg
    have z:i%3=(i-3)%3:=oMg
    refine⟨by rw[y,List.length_cons];omega,?_⟩;simp only[y,z,List.getElem_cons_succ];exact E
theorem yQ:Tryz.prog.cellsOf 53=3:=kRf
section
variable {H:Type}{enc:TypeId×Value->H}{W:World}{base:Nat}{held:Bool}
theorem MN {y:Nat}{cs:List Value}{x:DataW H×List MemPlace}(Y:DataW.trod enc Tryz.prog W base (fun _=>true) held y 53 cs=some x):∃f:lc,cs=f.cells:=by
 obtain⟨xs,k,hk,Z,z,E,B⟩:=DataW.trod_struct Tryz.underlying53 Y;rw[yQ]at z
 match xs,E,cs,z with
 | [y0,y1,y2],_,[v0,v1,v2],_ =>
   have M:=B 0 _ rfl;have O:=B 1 _ rfl;have U:=B 2 _ rfl;simp[uZ,FG]at M O U;obtain⟨s0,I,_,aa⟩:=DataW.trod_string Tryz.underlying9 M;obtain⟨s1,J,_,ae⟩:=DataW.trod_string Tryz.underlying9 O;obtain⟨V,K,_⟩:=DataW.trod_bool Tryz.underlying4 U;simp at I J K;subst I J K;exact⟨⟨s0,s1,V⟩,rfl⟩
theorem I3 {I:Nat}{v:Value}{x:DataW H×List MemPlace}(h:DataW.trod enc Tryz.prog W base (fun _=>true) held I 23 [v]=some x) :
 ∃y:ob,v=y.val/\ia (vG (hp W)) y.A y.l.length y.l/\y.l.length<=y.c/\(y.l=[]\/∃V sp,x.1=.slice V sp/\V.length=y.l.length):=by
 rcases open_slice Tryz.underlying23 h with⟨J,Y⟩ | ⟨K,B,c',m,k,D,Pl,J,_,hl,hm,U,Y,Z⟩
 ·simp at J
  exact⟨⟨none,0,[]⟩,J,⟨rfl,qF⟩,Zm _,.inl rfl⟩
 ·simp at J
  have aa:=N6 hl U;rw[yQ]at Z
  have each:∀i,i<B->∃f:lc,W.cells? base (K.add (i*3)) 3=some f.cells:=fun i hi=>by
   obtain⟨cs,M,O⟩:=Z i oMg;obtain⟨f,rfl⟩:=MN O;exact⟨f,M⟩
  have:Inhabited lc:=⟨⟨⟨#[]⟩,⟨#[]⟩,false⟩⟩;obtain⟨q,hq⟩:=choose_lt each;have z:((List.range B).map q).length=B:=by simp
  refine⟨⟨some K,c',(List.range B).map q⟩,by show v=.slice _ _ _;rw[z];exact J,⟨rfl,?_⟩,by show _<=c';rw[z];exact hl,.inr ⟨_,_,by rw[Y],by simp⟩⟩;show bk _ (some K) (((List.range B).map q).length*3) _;rw[z];refine pw ?_ fun i v hv=>?_
  ·rw[List.length_flatMap]
   have:((List.range B).map q).map (fun x=>x.cells.length)=List.replicate B 3:=by
    apply zba <;> simp[lc.cells]
   rw[this,List.sum_replicate_nat]
  ·obtain⟨M,O⟩:=BU _ i v hv
   have hi:i / 3<B:=by simpa using M
   obtain⟨_,_,E⟩:=World.cells?_some (hq (i / 3) hi);have h4:i%3<3:=zbe _ oMg;have:=E (i%3) h4;rw[add_add]at this;rw[show i / 3*3+i%3=i by omega]at this;rw[this,<-O];simp
end
open Go.RowKit Go.Sl
def uk:List Int:=[0,1,56,2,57,49,28,3,61,58,42,50,38,29,17,4,62,47,59,36,45,43,51,22,53,39,33,30,24,18,12,5,63,55,48,27,60,41,37,16,46,35,44,21,52,32,23,11,54,26,40,15,34,20,31,10,25,14,19,9,13,8,7,6]
theorem Lm:(Rows.laid_math_bits_deBruijn64tab:DataW Unit)=Lib.tabData .u8 uk:=kRf
theorem Jf:Tryz.prog.globalNamed "math/bits.deBruijn64tab"=some 0:=kRf
theorem Ln:((Tryz.prog.globalNamed "math/bits.deBruijn64tab").bind fun g=>(Tryz.prog.globals[g]?).map (·.type))=some 197:=kRf
theorem NY:Tryz.prog.cellsOf 5=1:=kRf
theorem Jd:Tryz.prog.cellsOf 197=64:=kRf
theorem MR:∀z∈uk,0<=z/\z<64:=by
 unfold uk;simp
theorem Je:∀j,j<64->∃k:Nat,k<64/\uk[j]?=some (k:Int):=fun j y=>by
 have z:uk.length=64:=rfl;have h:=MR uk[j] (Zq oMg);exact⟨uk[j].toNat,oMg,by rw[Zg oMg];exact congrArg some (Int.toNat_of_nonneg h.1).symm⟩
theorem DL {W:World}{x:String×DataW Unit}{rest:List (String×DataW Unit)}(h:laidMet Tryz.prog (x::("math/bits.deBruijn64tab",Rows.laid_math_bits_deBruijn64tab)::rest) W):qf (vG (hp W)):=by
 have B:=Jf;have z:=Ln;rw[B,Option.bind_some]at z;have I:=h.tail;rw[Lm]at I;have ht:=Lib.tabIs_of_head B z Tryz.underlying197 Tryz.underlying5 NY Jd I;unfold Lib.TabIs World.var? at ht;rw[B,Option.bind_some]at ht
 split at ht
 ·rename_i cs t f hc
  injection ht with ht;refine⟨fun j J=>?_⟩;obtain⟨k,K,M⟩:=Je j J;refine⟨k,K,⟨fun y E=>?_⟩⟩;have E:y=hp W:=E;subst E;refine⟨cs,t,f,hc,?_⟩;rw[ht];simp[M]
 ·cases ht
end Go.Proofs.YtdfppjcaelghhaaGreatDoor
