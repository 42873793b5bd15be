/- Plain lemmas and contracts; the conditions are in each. -/
import Derived.Deep.DeepHandedRow
import Derived.LaidMore
import Derived.Lay
import Derived.MakeChecks
import Derived.Stop.Joined
import Derived.Stop.LaidErr
import Derived.Test.YtdfppjcaelghhaaGreatDoorEnGG
set_option maxRecDepth 100000
namespace Go.Proofs.YtdfppjcaelghhaaGreatDoor
open Go.ChangeShapes Go.WideShapes Go.ChangeAt Go.RowKit Go.Sl Go.Deep
theorem zj:∀(l:List bi)(i:Nat)(v:Value),(l.flatMap bi.cells)[i]?=some v->∃h:i / 4<l.length,(l[i / 4].cells)[i%4]?=some v
 | [],i,_,h=>by simp at h
 | x::l,i,v,h=>by
   have B:x.cells.length=4:=rfl;rw[Zp]at h;by_cases I:i<4
   ·rw[Yz (by rw[B];exact I)]at h
    have y:i / 4=0:=by omega
    have z:i%4=i:=by omega
    refine⟨by rw[y];simp,?_⟩;simp only[y,z,List.getElem_cons_zero];exact h
   ·rw[Z7 (by rw[B];omega),B]at h
    obtain⟨J,E⟩:=zj l (i-4) v h;have y:i / 4=(i-4) / 4+1:=by omega
    have z:i%4=(i-4)%4:=by omega
    refine⟨by rw[y,List.length_cons];omega,?_⟩;simp only[y,z,List.getElem_cons_succ];exact E
theorem FF:Tryz.prog.cellsOf 42=1:=by kernel_rfl
theorem NF:Tryz.prog.cellsOf 128=1:=by kernel_rfl
theorem xj:Tryz.prog.cellsOf 44=4:=by kernel_rfl
theorem Nv {k:Int}(h:(Lit.int .u32 k).wf=true):∃n:Nat,k=n/\n<4294967296:=by
 have B:IntKind.u32.min<=k/\k<=IntKind.u32.max:=by simpa [Lit.wf]using h
 have y:IntKind.u32.min=0:=by decide
 have z:IntKind.u32.max=4294967295:=by decide
 rw[y,z]at B;exact⟨k.toNat,by omega,by omega⟩
section
variable {H:Type}{enc:TypeId×Value->H}{W:World}{base:Nat}{held:Bool}
theorem Lr {y:Nat}{cs:List Value}{x:DataW H×List MemPlace}(h2:DataW.trod enc Tryz.prog W base (fun _=>true) held y 44 cs=some x):∃f:bi,cs=f.cells/\f.num<4294967296:=by
 obtain⟨xs,k,hk,aa,z,I,B⟩:=DataW.trod_struct Tryz.underlying44 h2;rw[xj]at z
 match xs,I,cs,z with
 | [y0,y1,y2,y3],_,[v0,v1,v2,v3],_ =>
   have V:=B 0 _ rfl;have X:=B 1 _ rfl;have Y:=B 2 _ rfl;have Z:=B 3 _ rfl;simp[FF,I2,uZ]at V X Y Z;obtain⟨n0,K,_,J⟩:=DataW.trod_int Tryz.underlying42 V;obtain⟨n1,M,_,ae⟩:=DataW.trod_int Tryz.underlying3 X;obtain⟨s2,O,_,af⟩:=DataW.trod_string Tryz.underlying9 Y;obtain⟨s3,U,_,ag⟩:=DataW.trod_string Tryz.underlying9 Z;simp at K M O U;obtain⟨k0,rfl,E⟩:=Nv J;subst K M O U;exact⟨⟨k0,n1,s2,s3⟩,rfl,E⟩
theorem N2 {I:Nat}{v:Value}{x:DataW H×List MemPlace}(h:DataW.trod enc Tryz.prog W base (fun _=>true) held I 40 [v]=some x) :
 ∃(a:Option Addr)(c:Nat)(b:List bi),v=.slice a b.length c/\du (vG (hp W)) a b.length b/\b.length<=c/\(∀y∈b,y.num<4294967296)/\(b=[]\/∃X sp,x.1=.slice X sp/\X.length=b.length):=by
 rcases open_slice Tryz.underlying40 h with⟨J,Y⟩ | ⟨V,E,c',m,k,D,Pl,J,_,hl,hm,U,Y,Z⟩
 ·simp at J
  exact⟨none,0,[],J,⟨rfl,qF⟩,Zm _,by simp,.inl rfl⟩
 ·simp at J
  have aa:=N6 hl U;rw[xj]at Z
  have each:∀i,i<E->∃f:bi,W.cells? base (V.add (i*4)) 4=some f.cells/\f.num<4294967296:=fun i K=>by
   obtain⟨cs,M,O⟩:=Z i (by omega);obtain⟨f,rfl,hf⟩:=Lr O;exact⟨f,M,hf⟩
  have:Inhabited bi:=⟨⟨0,0,⟨#[]⟩,⟨#[]⟩⟩⟩;obtain⟨q,hq⟩:=choose_lt each;have z:((List.range E).map q).length=E:=by simp
  refine⟨some V,c',(List.range E).map q,by rw[z];exact J,⟨rfl,?_⟩,by rw[z];exact hl,fun y hy=>?_,.inr ⟨_,_,by rw[Y],by simp⟩⟩
  ·rw[z]
   refine pw ?_ fun i v hv=>?_
   ·rw[List.length_flatMap]
    have:((List.range E).map q).map (fun x=>x.cells.length)=List.replicate E 4:=by
     apply zba <;> simp[bi.cells]
    rw[this,List.sum_replicate_nat]
   ·obtain⟨M,O⟩:=zj _ i v hv
    have K:i / 4<E:=by simpa using M
    obtain⟨_,_,B⟩:=World.cells?_some (hq (i / 4) K).1;have h4:i%4<4:=zbe _ (by omega);have:=B (i%4) h4;rw[add_add]at this;rw[show i / 4*4+i%4=i by omega]at this;rw[this,<-O];simp
  ·obtain⟨i,K,rfl⟩:=Zz.1 hy
   exact(hq i (XA.1 K)).2
theorem Lg {H:Type}(d:DataW H):1<=Rows.uptoBulk d:=by
 cases d with
 | lit l=>cases l <;> simp[Rows.uptoBulk]
 | nil=>simp[Rows.uptoBulk]
 | ptr d=>simp[Rows.uptoBulk]
 | slice elems spare=>simp[Rows.uptoBulk]
 | agg parts=>simp[Rows.uptoBulk]
 | iface t d=>simp[Rows.uptoBulk]
 | map entries=>simp[Rows.uptoBulk]
 | held h=>simp[Rows.uptoBulk]
theorem DA {H:Type}(l:List (DataW H)):l.length<=Rows.uptoBulkAll l:=by
 induction l with
 | nil=>simp[Rows.uptoBulkAll]
 | cons x r y=>have:=Lg x;simp only[Rows.uptoBulkAll,List.length_cons];omega
theorem DB {α:Type}(D:α->DataW H)(f g:α->Nat):∀l:List α,(∀i∈l,f i+g i<=Rows.uptoBulk (D i))->(l.map f).sum+(l.map g).sum<=Rows.uptoBulkAll (l.map D)
 | [],_=>by simp[Rows.uptoBulkAll]
 | i::l,h=>by
   have z:=h i (Zj ..);have B:=DB D f g l fun j y=>h j (Zh _ y);simp only[Zy,List.sum_cons,Rows.uptoBulkAll];omega
end
open Go.RowKit Go.Sl
theorem GR:(Rows.laid_internal_strconv_uint64pow10:DataW Unit)=Lib.tabData .u64 Lib.pow10Tab:=by kernel_rfl
theorem EF:(Tryz.prog.globalNamed "internal/strconv.uint64pow10").isSome=true:=by kernel_rfl
theorem GS:((Tryz.prog.globalNamed "internal/strconv.uint64pow10").bind fun g=>(Tryz.prog.globals[g]?).map (·.type))=some 327:=by kernel_rfl
theorem Kl:Tryz.prog.cellsOf 29=1:=by kernel_rfl
theorem EE:Tryz.prog.cellsOf 327=20:=by kernel_rfl
theorem Fa {W:World}{x y:String×DataW Unit}{rest:List (String×DataW Unit)}(h:laidMet Tryz.prog (x::y::("internal/strconv.uint64pow10",Rows.laid_internal_strconv_uint64pow10)::rest) W):fX (vG (hp W)):=by
 obtain⟨g,B⟩:=YQ.1 EF;have z:=GS;rw[B,Option.bind_some]at z;have I:=h.tail.tail;rw[GR]at I;have ht:=Lib.tabIs_of_head B z Tryz.underlying327 Tryz.underlying29 Kl EE I;refine⟨g,B,fun x E=>?_⟩;have E:x=hp W:=E;subst E;unfold Lib.TabIs World.var? at ht;rw[B,Option.bind_some]at ht
 split at ht
 ·rename_i cs t f hc
  injection ht with ht;exact⟨t,f,by rw[<-ht];exact hc⟩
 ·cases ht
theorem Fo {H:Type}{enc:TypeId×Value->H}{C:Checked}{os:Os}{f:FuncId}{J:Func}{s:OpenSpec}{y:List PathCond}{apart:Bool}{laid:List (String×DataW Unit)}(modest:Bool)(w0:World)(args:Array Value)(E:w0.os=os)
 (I:(w0.forCall (fun _ _=>0) ⟨#[],args,[]⟩).Shaped C.prog)
 (z:Input.okWideB C.prog (w0.forCall (fun _ _=>0) ⟨#[],args,[]⟩) f ⟨#[],args,[]⟩=true)
 (B:s.preRow enc C.prog J y apart laid (w0.forCall (fun _ _=>0) ⟨#[],args,[]⟩).memory args) :
 ∃(w:World)(tape:Tape)(i:Input),w.os=os/\(w.forCall tape i).Shaped C.prog/\i.vars=[]/\Input.okWide C.prog (w.forCall tape i) .any w.heap.size f i /\
  s.preRow enc C.prog J y apart laid (w.forCall tape i).memory i.args/\({modest:=modest}:Assume).holds C.prog (lone (Frame.enter C.prog f i.args .normal) [] (w.forCall tape i)) :=
 ⟨w0,fun _ _=>0,⟨#[],args,[]⟩,E,I,(Input.okWide_of_okWideB (base:=0) z).1,(Input.okWide_of_okWideB z).2,B,by
   simp only[Assume.holds]
   exact⟨by simp,by simp,fun _=>Modest.zero,by simp,by simp⟩⟩
open Go.ChangeShapes Go.WideShapes Go.ChangeAt Go.RowKit Go.Sl Go.Deep
structure ob where
 A:Option Addr
 c:Nat
 l:List lc
abbrev ob.val (x:ob):Value:=.slice x.A x.l.length x.c
structure ll (S:ba)(A:Option Addr)(n:Nat)(ls:List ob):Prop where
 len:ls.length=n
 cells:bk S A n (ls.map ob.val)
 each:∀x∈ls,ia S x.A x.l.length x.l/\x.l.length<=x.c
 sum:(ls.map fun x=>x.l.length).sum<=1048576
theorem BU:∀(l:List lc)(i:Nat)(v:Value),(l.flatMap lc.cells)[i]?=some v->∃h:i / 3<l.length,(l[i / 3].cells)[i%3]?=some v
 | [],i,_,h=>by simp at h
 | x::l,i,v,h=>by
   have B:x.cells.length=3:=rfl;rw[Zp]at h;by_cases I:i<3
   ·rw[Yz (by rw[B];exact I)]at h
    have y:i / 3=0:=by omega
    have z:i%3=i:=by omega
    refine⟨by rw[y];simp,?_⟩;simp only[y,z,List.getElem_cons_zero];exact h
   ·rw[Z7 (by rw[B];omega),B]at h
    obtain⟨J,E⟩:=BU l (i-3) v h;have y:i / 3=(i-3) / 3+1:=by omega
    have z:i%3=(i-3)%3:=by omega
    refine⟨by rw[y,List.length_cons];omega,?_⟩;simp only[y,z,List.getElem_cons_succ];exact E
theorem yQ:Tryz.prog.cellsOf 53=3:=by kernel_rfl
theorem DE:Tryz.prog.cellsOf 23=1:=by kernel_rfl
section
variable {H:Type}{enc:TypeId×Value->H}{W:World}{base:Nat}{held:Bool}
theorem MN {y:Nat}{cs:List Value}{x:DataW H×List MemPlace}(X:DataW.trod enc Tryz.prog W base (fun _=>true) held y 53 cs=some x):∃f:lc,cs=f.cells:=by
 obtain⟨xs,k,hk,Y,z,E,B⟩:=DataW.trod_struct Tryz.underlying53 X;rw[yQ]at z
 match xs,E,cs,z with
 | [y0,y1,y2],_,[v0,v1,v2],_ =>
   have M:=B 0 _ rfl;have O:=B 1 _ rfl;have U:=B 2 _ rfl;simp[uZ,FG]at M O U;obtain⟨Z,I,_,aa⟩:=DataW.trod_string Tryz.underlying9 M;obtain⟨s1,J,_,ae⟩:=DataW.trod_string Tryz.underlying9 O;obtain⟨V,K,_⟩:=DataW.trod_bool Tryz.underlying4 U;simp at I J K;subst I J K;exact⟨⟨Z,s1,V⟩,rfl⟩
theorem I3 {I:Nat}{v:Value}{x:DataW H×List MemPlace}(h:DataW.trod enc Tryz.prog W base (fun _=>true) held I 23 [v]=some x) :
 ∃y:ob,v=y.val/\ia (vG (hp W)) y.A y.l.length y.l/\y.l.length<=y.c/\(y.l=[]\/∃V sp,x.1=.slice V sp/\V.length=y.l.length):=by
 rcases open_slice Tryz.underlying23 h with⟨J,X⟩ | ⟨K,B,c',m,k,D,Pl,J,_,hl,hm,U,X,Y⟩
 ·simp at J
  exact⟨⟨none,0,[]⟩,J,⟨rfl,qF⟩,Zm _,.inl rfl⟩
 ·simp at J
  have aa:=N6 hl U;rw[yQ]at Y
  have each:∀i,i<B->∃f:lc,W.cells? base (K.add (i*3)) 3=some f.cells:=fun i Z=>by
   obtain⟨cs,M,O⟩:=Y i (by omega);obtain⟨f,rfl⟩:=MN O;exact⟨f,M⟩
  have:Inhabited lc:=⟨⟨⟨#[]⟩,⟨#[]⟩,false⟩⟩;obtain⟨q,hq⟩:=choose_lt each;have z:((List.range B).map q).length=B:=by simp
  refine⟨⟨some K,c',(List.range B).map q⟩,by show v=.slice _ _ _;rw[z];exact J,⟨rfl,?_⟩,by show _<=c';rw[z];exact hl,.inr ⟨_,_,by rw[X],by simp⟩⟩;show bk _ (some K) (((List.range B).map q).length*3) _;rw[z];refine pw ?_ fun i v hv=>?_
  ·rw[List.length_flatMap]
   have:((List.range B).map q).map (fun x=>x.cells.length)=List.replicate B 3:=by
    apply zba <;> simp[lc.cells]
   rw[this,List.sum_replicate_nat]
  ·obtain⟨M,O⟩:=BU _ i v hv
   have Z:i / 3<B:=by simpa using M
   obtain⟨_,_,E⟩:=World.cells?_some (hq (i / 3) Z);have h4:i%3<3:=zbe _ (by omega);have:=E (i%3) h4;rw[add_add]at this;rw[show i / 3*3+i%3=i by omega]at this;rw[this,<-O];simp
theorem yL {a:Option Addr}{n c:Nat}{d:DataW H}{p:List MemPlace}(h:DataW.Trod enc Tryz.prog W base (fun _=>true) held 22 (.slice a n c) d p)(hb:Rows.uptoBulk d<=1048576):∃ls,ll (vG (hp W)) a n ls/\n<=1048576:=by
 obtain⟨Y,hf⟩:=h;rcases open_slice Tryz.underlying22 hf with⟨E,h2⟩ | ⟨a',n',c',m,k,D,Pl,E,_,hl,hm,X,h2,h3⟩
 ·simp[Value.cells]at E
  obtain⟨rfl,rfl,rfl⟩:=E;exact⟨[],⟨rfl,qF,by simp,by simp⟩,by omega⟩
 ·simp[Value.cells]at E
  obtain⟨rfl,rfl,rfl⟩:=E;have aa:=N6 hl X;rw[DE]at h3
  have each:∀i,i<n->∃y:ob,W.cells? base (a'.add (i*1)) 1=some [y.val]/\ia (vG (hp W)) y.A y.l.length y.l/\y.l.length<=y.c/\(y.l=[]\/∃K sp,D i=.slice K sp/\K.length=y.l.length):=fun i z=>by
   obtain⟨cs,Z,g2⟩:=h3 i (by omega);have V:cs.length=1:=(World.cells?_some Z).2.1
   match cs,V with
   | [v],_ =>
     obtain⟨y,rfl,J⟩:=I3 g2;exact⟨y,Z,J⟩
  have:Inhabited ob:=⟨⟨none,0,[]⟩⟩;obtain⟨q,M⟩:=choose_lt each;injection h2 with U _;rw[U]at hb;simp only[Rows.uptoBulk]at hb
  have hn:n<=1048576:=by
   have:=DA ((List.range n).map D);rw[ZW,XK]at this;omega
  have hs:=DB D (fun i=>(q i).l.length) (fun _=>0) (List.range n) fun i z=>by
   obtain⟨_,_,_,J⟩:=M i (XA.1 z);show (q i).l.length+0≤_;rcases J with O | ⟨K,sp,O,hl⟩
   ·rw[O];exact Zv _
   ·have:=DA K
    rw[O];simp only[Rows.uptoBulk];omega
  refine⟨(List.range n).map q,⟨by simp,?_,?_,?_⟩,hn⟩
  ·refine pw (by simp) fun i v I=>?_
   by_cases z:i<n
   ·rw[Yc,Zg (by simpa using z)]at I
    simp at I;obtain⟨_,_,B⟩:=World.cells?_some (M i z).1;have:=B 0 (by omega);rw[add_add]at this;rw[show i*1+0=i by omega]at this;rw[this,<-I];simp
   ·rw[YE (by simpa using z)]at I;cases I
  ·intro y J
   obtain⟨i,z,rfl⟩:=Zz.1 J;exact⟨(M i (XA.1 z)).2.1,(M i (XA.1 z)).2.2.1⟩
  ·rw[Yw]
   have:((fun y:ob=>y.l.length)∘q)=fun i=>(q i).l.length:=rfl;rw[this];omega
end
open Go.RowKit Go.Sl
def uk:List Int:=[0,1,56,2,57,49,28,3,61,58,42,50,38,29,17,4,62,47,59,36,45,43,51,22,53,39,33,30,24,18,12,5,63,55,48,27,60,41,37,16,46,35,44,21,52,32,23,11,54,26,40,15,34,20,31,10,25,14,19,9,13,8,7,6]
theorem Lm:(Rows.laid_math_bits_deBruijn64tab:DataW Unit)=Lib.tabData .u8 uk:=by kernel_rfl
theorem Jf:Tryz.prog.globalNamed "math/bits.deBruijn64tab"=some 0:=by kernel_rfl
theorem Ln:((Tryz.prog.globalNamed "math/bits.deBruijn64tab").bind fun g=>(Tryz.prog.globals[g]?).map (·.type))=some 197:=by kernel_rfl
theorem NY:Tryz.prog.cellsOf 5=1:=by kernel_rfl
theorem Jd:Tryz.prog.cellsOf 197=64:=by kernel_rfl
theorem MR:∀z∈uk,0<=z/\z<64:=by
 unfold uk;simp
theorem Je:∀j,j<64->∃k:Nat,k<64/\uk[j]?=some (k:Int):=fun j y=>by
 have z:uk.length=64:=rfl;have h:=MR uk[j] (Zq (by omega));exact⟨uk[j].toNat,by omega,by rw[Zg (by omega)];exact congrArg some (Int.toNat_of_nonneg h.1).symm⟩
theorem DL {W:World}{x:String×DataW Unit}{rest:List (String×DataW Unit)}(h:laidMet Tryz.prog (x::("math/bits.deBruijn64tab",Rows.laid_math_bits_deBruijn64tab)::rest) W):qf (vG (hp W)):=by
 have B:=Jf;have z:=Ln;rw[B,Option.bind_some]at z;have I:=h.tail;rw[Lm]at I;have ht:=Lib.tabIs_of_head B z Tryz.underlying197 Tryz.underlying5 NY Jd I;unfold Lib.TabIs World.var? at ht;rw[B,Option.bind_some]at ht
 split at ht
 ·rename_i cs t f hc
  injection ht with ht;refine⟨fun j J=>?_⟩;obtain⟨k,K,M⟩:=Je j J;refine⟨k,K,⟨fun y E=>?_⟩⟩;have E:y=hp W:=E;subst E;refine⟨cs,t,f,hc,?_⟩;rw[ht];simp[M]
 ·cases ht
end Go.Proofs.YtdfppjcaelghhaaGreatDoor
