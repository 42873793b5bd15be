/- Plain lemmas and contracts; the conditions are in each. -/
import Derived.Deep.Draws
import Derived.Great.BuildSlice
import Derived.LoopIn
import Derived.LoopNIn
import Derived.MapKept
import Derived.Maps.AppendAt
import Derived.OwnWalk
import Derived.OwnWalkIn
import Derived.RangeFuncBound
import Derived.RangeFuncCalls
import Derived.RangeFuncLeaves
import Derived.RangeFuncNested
import Derived.Shelf.Abstract
import Derived.Shelf.RegionOpen
import Derived.TacticsInMore
import Derived.Test.YtdfppjcaelghhaaGreatDoorAl
namespace Go.Sl
open Go
abbrev Hp:=Nat->Option Obj
def Hp.apart (a b:Hp):Prop:=∀k,a k=none\/b k=none
def Hp.join (a b:Hp):Hp:=fun k=>(a k).or (b k)
def Hp.none:Hp:=fun _=>Option.none
def Hp.one (g:Nat)(o:Obj):Hp:=fun k=>if k=g then some o else Option.none
structure ba where
 says:Hp->Prop
theorem ba.ext' {A B:ba}(h:∀x,A.says x↔B.says x):A=B:=by
 cases A;cases B;congr;funext x;exact propext (h x)
def Pn (A B:ba):ba:=⟨fun h=>∃a b,Hp.apart a b/\h=Hp.join a b/\A.says a/\B.says b⟩
instance:Mul ba:=⟨Pn⟩
def sC:ba:=⟨fun h=>h=Hp.none⟩
def OY:ba:=⟨fun _=>True⟩
def aE (g:Nat)(o:Obj):ba:=⟨fun h=>h=Hp.one g o⟩
def vG (x:Hp):ba:=⟨fun h=>h=x⟩
def ex {α:Sort _}(F:α->ba):ba:=⟨fun h=>∃a,(F a).says h⟩
def xX (p:Prop):ba:=⟨fun h=>p/\h=Hp.none⟩
theorem EY (A B:ba)(h:Hp):(A*B).says h↔∃a b,Hp.apart a b/\h=Hp.join a b/\A.says a/\B.says b:=Iff.rfl
theorem Hp.l5 {a b:Hp}(h:Hp.apart a b):Hp.apart b a:=fun k=>(h k).symm
theorem Hp.join_comm {a b:Hp}(h:Hp.apart a b):Hp.join a b=Hp.join b a:=by
 funext k;unfold Hp.join
 rcases h k with h | h <;> simp[h]
theorem ii (A B:ba):A*B=B*A:=by
 apply ba.ext';intro x;rw[EY,EY];constructor <;> (rintro⟨a,b,y,rfl,z,E⟩;exact⟨b,a,Hp.l5 y,Hp.join_comm y,E,z⟩)
theorem Hp.join_assoc (a b c:Hp):Hp.join (Hp.join a b) c=Hp.join a (Hp.join b c):=by
 funext k;unfold Hp.join;cases a k <;> simp
theorem Hp.lW {a b c:Hp}:Hp.apart (Hp.join a b) c↔Hp.apart a c/\Hp.apart b c:=by
 unfold Hp.apart Hp.join;constructor
 ·intro h;exact⟨fun k=>by have:=h k;cases y:a k <;> simp_all,fun k=>by have:=h k;cases y:a k <;> cases E:b k <;> simp_all⟩
 ·rintro⟨z,B⟩ k;have:=z k;have:=B k;cases y:a k <;> simp_all
theorem Hp.qh {a b c:Hp}:Hp.apart a (Hp.join b c)↔Hp.apart a b/\Hp.apart a c:=by
 constructor
 ·intro h;have:=Hp.lW.1 (Hp.l5 h);exact⟨Hp.l5 this.1,Hp.l5 this.2⟩
 ·rintro⟨y,z⟩;exact Hp.l5 (Hp.lW.2 ⟨Hp.l5 y,Hp.l5 z⟩)
theorem bo (A B C:ba):A*B*C=A*(B*C):=by
 apply ba.ext';intro x;constructor
 ·rintro⟨M,c,z,rfl,⟨a,b,E,rfl,I,J⟩,K⟩
  have y:=Hp.lW.1 z;exact⟨a,Hp.join b c,Hp.qh.2 ⟨E,y.1⟩,Hp.join_assoc _ _ _,I,b,c,y.2,rfl,J,K⟩
 ·rintro⟨a,bc,z,rfl,I,b,c,E,rfl,J,K⟩
  have y:=Hp.qh.1 z;exact⟨Hp.join a b,c,Hp.lW.2 ⟨y.2,E⟩,(Hp.join_assoc _ _ _).symm,⟨a,b,y.1,rfl,I,J⟩,K⟩
theorem cC (A B C:ba):A*(B*C)=B*(A*C):=by rw[<-bo,ii A B,bo]
instance:Std.Associative (α:=ba) (·*·):=⟨bo⟩
instance:Std.Commutative (α:=ba) (·*·):=⟨ii⟩
theorem Hp.join_none (b:Hp):Hp.join Hp.none b=b:=by funext k;simp[Hp.join,Hp.none]
theorem Hp.nK (b:Hp):Hp.apart Hp.none b:=fun _=>.inl rfl
theorem b9 (A:ba):sC*A=A:=by
 apply ba.ext';intro x;constructor
 ·rintro⟨a,b,_,rfl,rfl,y⟩;rw[Hp.join_none];exact y
 ·intro h;exact⟨Hp.none,x,Hp.nK _,(Hp.join_none _).symm,rfl,h⟩
theorem eI (A:ba):A*sC=A:=by rw[ii,b9]
theorem IH {p:Prop}{A:ba}{h:Hp}:(xX p*A).says h↔p/\A.says h:=by
 constructor
 ·rintro⟨a,b,z,rfl,⟨hp,rfl⟩,y⟩;rw[Hp.join_none];exact⟨hp,y⟩
 ·rintro⟨hp,h⟩;exact⟨Hp.none,_,Hp.nK _,(Hp.join_none _).symm,⟨hp,rfl⟩,h⟩
theorem zh {α:Sort _}{F:α->ba}{A:ba}{h:Hp}:(ex F*A).says h↔∃a,(F a*A).says h:=by
 constructor
 ·rintro⟨a,b,y,z,⟨x,E⟩,B⟩;exact⟨x,a,b,y,z,E,B⟩
 ·rintro⟨x,a,b,y,z,E,B⟩;exact⟨a,b,y,z,⟨x,E⟩,B⟩
theorem lF {A A' B:ba}(h:∀x,A.says x->A'.says x){x:Hp}(J:(A*B).says x):(A'*B).says x:=by
 obtain⟨a,b,y,z,E,I⟩:=J;exact⟨a,b,y,z,h _ E,I⟩
def hp (w:World):Hp:=fun k=>w.heap[k]?
class Mod (w:World)(w0:outParam World)(S:outParam ba):Prop where
 os:w.os=w0.os
 tape:w.tape=w0.tape
 output:w.output=w0.output
 says:(S*OY).says (hp w)
class jq (S:ba)(g:Nat)(o:outParam Obj):Prop where
 has:∀h,S.says h->h g=some o
instance jq.aE (g:Nat)(o:Obj):jq (aE g o) g o:=⟨fun h y=>by rw[y];simp[Hp.one]⟩
instance jq.left (A B:ba)(g:Nat)(o:Obj) [z:jq A g o]:jq (A*B) g o :=
 ⟨by rintro h ⟨a,b,_,rfl,y,_⟩;simp[Hp.join,z.has a y]⟩
instance jq.right (A B:ba)(g:Nat)(o:Obj) [I:jq B g o]:jq (A*B) g o :=
 ⟨by
   rintro h ⟨a,b,z,rfl,J,E⟩;have:=I.has b E;rcases z g with y | y
   ·simp[Hp.join,y,this]
   ·rw[y]at this;cases this⟩
class eM {V:Type}(S:ba)(pred:V->ba)(v:outParam V)(F:outParam ba):Prop where
 eq:S=pred v*F
instance eM.left {V:Type}(A B F:ba)(pred:V->ba)(v:V) [t:eM A pred v F]:eM (A*B) pred v (F*B):=⟨by rw[t.eq,bo]⟩
instance eM.right {V:Type}(A B F:ba)(pred:V->ba)(v:V) [t:eM B pred v F]:eM (A*B) pred v (A*F) :=
 ⟨by rw[t.eq,<-bo,ii A,bo]⟩
instance eM.aE (g:Nat)(o:Obj):eM (aE g o) (aE g) o sC:=⟨(eI _).symm⟩
section
variable {w w0:World}{S:ba}
theorem Mod.fact {g:Nat}{o:Obj} [m:Mod w w0 S](h:∀h,S.says h->h g=some o):w.heap[g]?=some o:=by
 obtain⟨a,b,_,y,z,_⟩:=m.says;have:hp w g=some o:=by rw[y];simp[Hp.join,h _ z]
 exact this
theorem Mod.heap {g:Nat}{o:Obj} [m:Mod w w0 S] [h:jq S g o]:w.heap[g]?=some o:=Mod.fact h.has
theorem ab {g i:Nat}{cs:Array Value}{t:TypeId}{fr:Nat×Nat} [Mod w w0 S] [jq S g (.cells cs t fr)]:w.cell? ⟨g,i,none⟩=cs[i]?:=by
 have:=Mod.heap (w:=w) (w0:=w0) (S:=S) (g:=g) (o:=.cells cs t fr);simp[World.cell?,this]
theorem Za {g i:Nat}{cs:Array Value}{t:TypeId}{fr:Nat×Nat}{v:Value} [Mod w w0 S] [jq S g (.cells cs t fr)] (h:cs[i]?=some v:=by rfl):w.cell? ⟨g,i,none⟩=some v:=ab.trans h
theorem bh {g i:Nat}{cs:Array Value}{t:TypeId} [Mod w w0 S] [jq S g (.cells cs t (0,0))]:w.frozen? ⟨g,i,none⟩=false:=by
 have:=Mod.heap (w:=w) (w0:=w0) (S:=S) (g:=g) (o:=.cells cs t (0,0));simp[World.frozen?,this]
theorem Mod.conv {S':ba} [m:Mod w w0 S](h:∀x,S.says x->S'.says x):Mod w w0 S':=⟨m.os,m.tape,m.output,lF h m.says⟩
theorem Mod.to {S':ba}(h:S=S') [m:Mod w w0 S]:Mod w w0 S':=h▸m
theorem Mod.drop {A:ba} [m:Mod w w0 (A*S)]:Mod w w0 S :=
 ⟨m.os,m.tape,m.output,by
   have h:=m.says;rw[ii A S,bo]at h;obtain⟨a,b,y,z,B,_⟩:=h
   exact⟨a,b,y,z,B,trivial⟩⟩
theorem Mod.lP {A:ba} [m:Mod w w0 (S*A)]:Mod w w0 S:=by
 have:Mod w w0 (A*S):=by rw[ii];exact m
 exact Mod.drop (A:=A)
theorem Mod.open {α:Sort _}{G:α->ba}{F:ba} [m:Mod w w0 (ex G*F)]:∃a,Mod w w0 (G a*F):=by
 have h:=m.says;rw[bo]at h;obtain⟨a,h⟩:=zh.1 h;exact⟨a,m.os,m.tape,m.output,by rw[bo];exact h⟩
theorem Mod.shut {α:Sort _}{G:α->ba}{F:ba}(a:α) [m:Mod w w0 (G a*F)]:Mod w w0 (ex G*F) :=
 Mod.conv (S:=G a*F) fun _ h=>zh.2 ⟨a,h⟩
theorem Mod.qD {p:Prop}{F:ba} [m:Mod w w0 (xX p*F)]:p/\Mod w w0 F:=by
 have h:=m.says;rw[bo]at h;have h':=IH.1 h;exact⟨h'.1,m.os,m.tape,m.output,h'.2⟩
theorem Mod.AG {p:Prop}{F:ba}(hp:p) [m:Mod w w0 F]:Mod w w0 (xX p*F) :=
 Mod.conv (S:=F) fun _ h=>IH.2 ⟨hp,h⟩
instance Mod.drew [m:Mod w w0 S]:Mod w.drew w0 S:=⟨m.os,m.tape,m.output,m.says⟩
instance Mod.drewN (n:Nat) [m:Mod w w0 S]:Mod (w.drewN n) w0 S:=⟨m.os,m.tape,m.output,m.says⟩
theorem zw (w:World)(o:Obj):hp (w.alloc o)=Hp.join (Hp.one w.heap.size o) (hp w)/\Hp.apart (Hp.one w.heap.size o) (hp w):=by
 constructor
 ·funext k
  simp only[hp,World.alloc,Array.getElem?_push,Hp.join,Hp.one]
  split <;> simp_all
 ·intro k
  by_cases y:k=w.heap.size
  ·right;subst y;simp[hp]
  ·left;simp[Hp.one,y]
class lY (w:World)(n:outParam Nat):Prop where
 eq:w.heap.size=n
instance (priority:=100) lY.base (w:World):lY w w.heap.size:=⟨rfl⟩
instance lY.alloc (w:World)(n:Nat)(o:Obj) [h:lY w n]:lY (w.alloc o) (n+1):=⟨by simp[h.eq]⟩
instance Mod.alloc (o:Obj){n:Nat} [hn:lY w n] [m:Mod w w0 S]:Mod (w.alloc o) w0 (aE n o*S) :=
 ⟨m.os,m.tape,m.output,by obtain⟨y,z⟩:=zw w o;rw[y,bo,<-hn.eq];exact⟨_,_,z,rfl,rfl,m.says⟩⟩
theorem Mod.turn {B:World}{V:Type}{pred:V->ba}{u Y:V}{F:ba}{g:Nat} [m:Mod w w0 S] [t:eM S pred u F]
 (Z:B.os=w.os) (h2:B.tape=w.tape) (h3:B.output=w.output) (h4:∀k,k≠g->B.heap[k]?=w.heap[k]?)
 (I:∀h,(pred u).says h->(∀k,k≠g->h k=Option.none)/\(h g).isSome=true)
 (E:∀h,(pred u).says h->w.heap[g]?=h g->(pred Y).says (fun k=>if k=g then B.heap[g]? else Option.none)):Mod B w0 (pred Y*F):=by
 refine⟨Z.trans m.os,h2.trans m.tape,h3.trans m.output,?_⟩;have U:=m.says;rw[t.eq,bo]at U;obtain⟨a,b,ha,O,J,hb⟩:=U;obtain⟨hk,M⟩:=I a J
 have z:b g=Option.none:=by
  rcases ha g with h | h
  ·rw[h]at M;cases M
  ·exact h
 have K:w.heap[g]?=a g:=by
  have:hp w g=a g:=by rw[O];simp[Hp.join,z]
  exact this
 rw[bo];refine⟨_,b,?_,?_,E a J K,hb⟩
 ·intro k
  by_cases y:k=g
  ·right;rw[y];exact z
  ·left;simp[y]
 ·funext k
  by_cases y:k=g
  ·subst y;simp[hp,Hp.join,z]
  ·have e:hp w k=b k:=by rw[O];simp[Hp.join,hk k y]
   simp only[hp,Hp.join,if_neg y,Option.none_or];rw[h4 k y];exact e
theorem yh (w:World)(a:Addr)(v:Value)(k:Nat)(h:k≠a.block):(w.setCell a v).heap[k]?=w.heap[k]?:=Go.RowKit.Below.heap_setCell w a v k h
instance Mod.setCells {g i:Nat}{cs:Array Value}{ty:TypeId}{fr:Nat×Nat}{F:ba}(v:Value) [m:Mod w w0 S] [t:eM S (aE g) (.cells cs ty fr) F] :
 Mod (w.setCell ⟨g,i,none⟩ v) w0 (aE g (.cells (cs.setIfInBounds i v) ty fr)*F) :=
 Mod.turn (w:=w) (g:=g) (u:=Obj.cells cs ty fr) (pred:=aE g) rfl rfl rfl (fun k y=>yh _ _ _ _ y)
  (fun h z=>by rw[z];exact⟨fun k y=>by simp[Hp.one,y],by simp[Hp.one]⟩)
  (fun h z B=>by
    rw[z]at B;simp[Hp.one]at B;show _=_
    funext k
    by_cases y:k=g
    ·subst y;simp[Hp.one,World.setCell,Yo,B]
    ·simp[Hp.one,y])
end
abbrev eR:=List (ByteArray×Value)
structure fb (es:Array MapEntry)(clock:Nat)(L:eR):Prop where
 keys:es.toList.map (fun e=>(e.key,e.val))=L.map (fun p=>(Value.string p.1,p.2))
 born:es.toList.Pairwise (fun a b=>a.born<b.born)
 lt:∀e∈es.toList,e.born<clock
 nodup:(L.map (·.1)).Nodup
def gv (r:Nat)(L:eR):ba:=⟨fun h=>∃z y,fb z y L/\h=Hp.one r (.map z y)⟩
def br {α:Type}(L:List (ByteArray×α))(s:ByteArray):Option α:=(L.find? (fun p=>decide (p.1=s))).map (·.2)
def cV {α:Type}(L:List (ByteArray×α))(s:ByteArray)(v:α):List (ByteArray×α) :=
 if L.any (fun p=>decide (p.1=s))then L.map (fun p=>if p.1=s then (p.1,v)else p)else L++[(s,v)]
def cG {α:Type}(L:List (ByteArray×α))(s:ByteArray):List (ByteArray×α):=L.filter (fun p => !decide (p.1=s))
class dc (S:ba)(r:Nat)(L:outParam eR):Prop where
 has:∀h,S.says h->∃es clock,fb es clock L/\h r=some (.map es clock)
instance dc.smap (r:Nat)(L:eR):dc (gv r L) r L:=⟨fun h ⟨y,c,B,z⟩=>⟨y,c,B,by rw[z];simp[Hp.one]⟩⟩
instance dc.left (A B:ba)(r:Nat)(L:eR) [E:dc A r L]:dc (A*B) r L :=
 ⟨by
   rintro h ⟨a,b,_,rfl,z,_⟩;obtain⟨y,c,J,I⟩:=E.has a z
   exact⟨y,c,J,by simp[Hp.join,I]⟩⟩
instance dc.right (A B:ba)(r:Nat)(L:eR) [K:dc B r L]:dc (A*B) r L :=
 ⟨by
   rintro h ⟨a,b,I,rfl,O,J⟩;obtain⟨E,c,M,z⟩:=K.has b J;refine⟨E,c,M,?_⟩;rcases I r with y | y
   ·simp[Hp.join,y,z]
   ·rw[y]at z;cases z⟩
instance eM.smap (r:Nat)(L:eR):eM (gv r L) (gv r) L sC:=⟨(eI _).symm⟩
theorem fb.made:fb #[] 0 []:=⟨rfl,by simp,by simp,by simp⟩
theorem pz (r:Nat):(gv r []).says (Hp.one r (.map #[] 0)):=⟨#[],0,fb.made,rfl⟩
instance (priority:=2000) Mod.allocMap {w w0:World}{S:ba}{n:Nat} [hn:lY w n] [m:Mod w w0 S]:Mod (w.alloc (.map #[] 0)) w0 (gv n []*S):=by
 have h:Mod (w.alloc (.map #[] 0)) w0 (aE n (.map #[] 0)*S):=zbk;exact Mod.conv (S:=aE n (.map #[] 0)*S) fun x z=>lF (fun y B=>by rw[show y=Hp.one n (.map #[] 0)from B];exact pz _) z
def _root_.Go.Program.mapKey (P:Program)(t:TypeId):TypeId:=match P.underlying t with | some (.map k _)=>k | _=>0
def _root_.Go.Program.mapElem (P:Program)(t:TypeId):TypeId:=match P.underlying t with | some (.map _ e)=>e | _=>0
def _root_.Go.Program.zeroOf (P:Program)(t:TypeId):Value:=((P.info? t).bind (·.zero)).getD undef
class od (P:Program)(t:TypeId):Prop where
 map:P.underlying t=some (.map (P.mapKey t) (P.mapElem t))
 key:P.underlying (P.mapKey t)=some .string
 zero:∀w,(zeroValue (P.mapElem t)).run P w=.ok (P.zeroOf (P.mapElem t)) w
section
variable {P:Program}{w w0:World}{S:ba}{t:TypeId}{r:Nat}{L:eR}
theorem mapBlock (w:World) [m:Mod w w0 S] [h:dc S r L]:∃z y,fb z y L/\w.heap[r]?=some (.map z y):=by
 obtain⟨a,b,_,B,E,_⟩:=m.says;obtain⟨z,c,J,I⟩:=h.has a E;refine⟨z,c,J,?_⟩;have:hp w r=some (.map z c):=by rw[B];simp[Hp.join,I]
 exact this
theorem fB {o:Obj}(h:w.heap[r]?=some o)(y:∀c e f,o ≠ .cells c e f):(getObj r).run P w=.ok o w:=by
 cases o <;> simp[getObj,Sem.run,h] <;> exact absurd rfl (y _ _ _)
theorem run_setObj_at {o o':Obj}(h:w.heap[r]?=some o)(y:∀c e f,o ≠ .cells c e f):(setObj r o').run P w=.ok () {w with heap:=w.heap.setIfInBounds r o' }:=by
 cases o <;> simp[setObj,Sem.run,h] <;> exact absurd rfl (y _ _ _)
theorem dd (s:ByteArray):∀(y:List MapEntry)(L:eR)(i:Nat),y.map (fun e=>(e.key,e.val))=L.map (fun p=>(Value.string p.1,p.2)) ->
 Instr.findNow .string (.string s) y i=some ((L.findIdx? (fun p=>decide (p.1=s))).bind fun j=>(L[j]?).map fun p=>(i+j,p.2))
 | [],L,i,h=>by
   have:L=[]:=by cases L;rfl;simp at h
   subst this;simp[Instr.findNow]
 | e::y,[],i,h=>by simp at h
 | e::y,p::L,i,h=>by
   simp only[Zy,zbf,Prod.mk.injEq]at h;obtain⟨⟨E,J⟩,I⟩:=h;have K:=dd s y L (i+1) I;simp only[Instr.findNow,E,Instr.sameNow,Xo];by_cases z:p.1=s
   ·have B:(s==p.1)=true:=(MapKept.bytes_beq _ _).2 z.symm
    simp only[B];simp[z,J]
   ·have B:(s==p.1)=false:=by
     cases h:(s==p.1)with
     | false=>rfl
     | true=>exact absurd ((MapKept.bytes_beq _ _).1 h).symm z
    simp only[B,z,decide_false];rw[K]
    cases M:L.findIdx? (fun p=>decide (p.1=s))with
    | none=>simp
    | some j=>simp[YB,XR 1 j]
theorem j2 (L:eR)(s:ByteArray):br L s=(L.findIdx? (fun p=>decide (p.1=s))).bind fun j=>(L[j]?).map (·.2):=by
 unfold br
 induction L with
 | nil=>simp
 | cons p L z =>
   simp only[List.find?_cons,Xo];by_cases y:p.1=s
   ·simp[y]
   ·simp only[y,z,decide_false]
    cases B:L.findIdx? (fun p=>decide (p.1=s)) <;> simp
theorem j4 {s:ByteArray} [T:od P t]{y:Array MapEntry}{c:Nat}(z:fb y c L)(w:World) :
 (Instr.findKey (P.mapKey t) (.string s) y.toList).run P w=.ok ((L.findIdx? (fun p=>decide (p.1=s))).bind fun j=>(L[j]?).map fun p=>(j,p.2)) w:=by
 have:=dd s y.toList L 0 z.keys;simp only[ZM]at this;exact MapKept.run_findKey T.key this
theorem eK {s:ByteArray} [T:od P t](b:Bool)(w:World):(Instr.checkKey b 10000 (P.mapKey t) (.string s)).run P w=.ok () w :=
 MapKept.run_checkKey (d:=.string) T.key (by trivial) b 9999
@[go_sem] theorem s9 (s:ByteArray) [Mod w w0 S] [dc S r L] [T:od P t] :
 (Instr.lookup t (.map (some r)) (.string s) true).run P w=.ok (.tuple #[(br L s).getD (P.zeroOf (P.mapElem t)),.bool (br L s).isSome]) w:=by
 obtain⟨M,c,K,I⟩:=mapBlock (w0:=w0) (S:=S) (r:=r) (L:=L) w;have y:=j4 (P:=P) (t:=t) (s:=s) K w;have z:=j2 L s
 cases B:L.findIdx? (fun p=>decide (p.1=s))with
 | none=>rw[B]at y z;simp[Instr.lookup,run_underlying T.map,fB I,eK,y,T.zero,z]
 | some j =>
   rw[B]at y z;obtain⟨J,_⟩:=Zk.1 B;have E:L[j]?=some L[j]:=Zg J;simp[E]at y z;simp[Instr.lookup,run_underlying T.map,fB I,eK,y,z]
@[go_sem] theorem vV (s:ByteArray) [Mod w w0 S] [dc S r L] [T:od P t] :
 (Instr.lookup t (.map (some r)) (.string s) false).run P w=.ok ((br L s).getD (P.zeroOf (P.mapElem t))) w:=by
 obtain⟨M,c,K,I⟩:=mapBlock (w0:=w0) (S:=S) (r:=r) (L:=L) w;have y:=j4 (P:=P) (t:=t) (s:=s) K w;have z:=j2 L s
 cases B:L.findIdx? (fun p=>decide (p.1=s))with
 | none=>rw[B]at y z;simp[Instr.lookup,run_underlying T.map,fB I,eK,y,T.zero,z]
 | some j =>
   rw[B]at y z;obtain⟨J,_⟩:=Zk.1 B;have E:L[j]?=some L[j]:=Zg J;simp[E]at y z;simp[Instr.lookup,run_underlying T.map,fB I,eK,y,z]
@[go_sem] theorem vU (ty:TypeId) [Mod w w0 S] [dc S r L] [T:od P t]:(Builtin.len_ #[t] ty #[.map (some r)]).run P w=.ok (goInt L.length) w:=by
 obtain⟨y,c,B,E⟩:=mapBlock (w0:=w0) (S:=S) (r:=r) (L:=L) w;have z:y.size=L.length:=by have:=congrArg List.length B.keys;simpa using this
 simp[Builtin.len_,run_underlying T.map,fB E,z]
def _root_.Go.World.oB (w:World)(r:Nat)(s:ByteArray)(v:Value):World :=
 match w.heap[r]? with
 | some (.map es clock) =>
   {w with heap:=w.heap.setIfInBounds r (match Instr.findNow .string (.string s) es.toList 0 with
    | some (some (i,_))=>.map (es.modify i fun e=>{e with key:=.string s,val:=v}) clock
    | _=>.map (es.push {key:=.string s,val:=v,born:=clock}) (clock+1))}
 | _=>w
def _root_.Go.World.nG (w:World)(r:Nat)(s:ByteArray):World :=
 match w.heap[r]? with
 | some (.map es clock) =>
   {w with heap:=w.heap.setIfInBounds r (match Instr.findNow .string (.string s) es.toList 0 with
    | some (some (i,_))=>.map (es.eraseIdxIfInBounds i) clock
    | _=>.map es clock)}
 | _=>w
theorem sH {y:Array MapEntry}{c:Nat}(E:fb y c L){j:Nat}(z:j<L.length):∃e,y[j]?=some e/\e.key=.string L[j].1/\e.val=L[j].2:=by
 have B:y.size=L.length:=by have:=congrArg List.length E.keys;simpa using this
 refine⟨y[j],by simp[B,z],?_⟩;have:=congrArg (fun l=>l[j]?) E.keys;simp[B,z]at this;exact this
theorem kU (s:ByteArray)(v:Value) [Mod w w0 S] [dc S r L] [T:od P t] :
 (Instr.mapUpdate t (.map (some r)) (.string s) v).run P w=.ok () (w.oB r s v):=by
 obtain⟨V,c,M,z⟩:=mapBlock (w0:=w0) (S:=S) (r:=r) (L:=L) w;have B:=j4 (P:=P) (t:=t) (s:=s) M w;have y:=dd s V.toList L 0 M.keys;simp only[ZM]at y
 cases I:L.findIdx? (fun p=>decide (p.1=s))with
 | none =>
   rw[I]at B y;simp[Instr.mapUpdate,run_underlying T.map,fB z,eK,B,World.oB,z,y,run_setObj_at z]
 | some j =>
   rw[I]at B y;obtain⟨U,hk,_⟩:=Zk.1 I;have J:L[j]?=some L[j]:=Zg U;obtain⟨e,Y,E,Z⟩:=sH M U;have K:L[j].1=s:=by simpa using hk
   simp[J]at B y
   have O:(Instr.keyThatStays (.string L[j].1) (.string s)).run P w=.ok (.string s) w:=by
    rw[K];simp[Instr.keyThatStays,Instr.sameBits,(MapKept.bytes_beq s s).2 rfl]
   simp[Instr.mapUpdate,run_underlying T.map,fB z,eK,B,World.oB,z,y,run_setObj_at z,Y,E,O]
attribute [go_sem] kU
theorem mT (ty O:TypeId)(s:ByteArray) [Mod w w0 S] [dc S r L] [T:od P t] :
 (Builtin.delete_ #[t,O] ty #[.map (some r),.string s]).run P w=.ok (.tuple #[]) (w.nG r s):=by
 obtain⟨K,c,J,z⟩:=mapBlock (w0:=w0) (S:=S) (r:=r) (L:=L) w;have B:=j4 (P:=P) (t:=t) (s:=s) J w;have y:=dd s K.toList L 0 J.keys;simp only[ZM]at y
 cases E:L.findIdx? (fun p=>decide (p.1=s))with
 | none =>
   rw[E]at B y;simp[Builtin.delete_,run_underlying T.map,fB z,eK,B,World.nG,z,y,run_setObj_at z]
 | some j =>
   rw[E]at B y;obtain⟨M,U,_⟩:=Zk.1 E;have I:L[j]?=some L[j]:=Zg M;simp[I]at B y;simp[Builtin.delete_,run_underlying T.map,fB z,eK,B,World.nG,z,y,run_setObj_at z]
attribute [go_sem] mT
@[go_sem] theorem ua:(Instr.makeMap t none).run P w=.ok (.map (some w.heap.size)) (w.alloc (.map #[] 0)):=by
 simp[Instr.makeMap]
def ly {α β:Type}(f:α->β)(L:List (ByteArray×α)):List (ByteArray×β):=L.map fun p=>(p.1,f p.2)
theorem xN {α β:Type}(f:α->β)(L:List (ByteArray×α))(s:ByteArray):br (ly f L) s=(br L s).map f:=by
 unfold br ly;rw[List.find?_map,Option.map_map,Option.map_map];rfl
theorem xR {α β:Type}(f:α->β)(L:List (ByteArray×α))(s:ByteArray)(v:α):cV (ly f L) s (f v)=ly f (cV L s v):=by
 unfold cV ly;have h:(L.map fun p=>(p.1,f p.2)).any (fun p=>decide (p.1=s))=L.any (fun p=>decide (p.1=s)):=by rw[List.any_map];rfl
 rw[h]
 split
 ·simp only[Yw]
  apply YS;intro p _;simp only[Function.comp]
  split <;> rfl
 ·simp
theorem xM {α β:Type}(f:α->β)(L:List (ByteArray×α))(s:ByteArray):cG (ly f L) s=ly f (cG L s):=by
 unfold cG ly;rw[zav];rfl
theorem tU {α β:Type}(f:α->β)(L:List (ByteArray×α)):(ly f L).length=L.length:=by simp[ly]
theorem dq {α β:Type}(f:α->β):∀(l:List α)(j:Nat),(l.eraseIdx j).map f=(l.map f).eraseIdx j
 | [],_=>by simp
 | _::_,0=>by simp
 | a::l,j+1=>by simp[dq f l j]
theorem om {z:Array MapEntry}{j:Nat}{s:ByteArray}{v:Value}(I:j<L.length)(B:z.toList.map (fun e=>(e.key,e.val))=L.map (fun p=>(Value.string p.1,p.2)))
 (K:L[j].1=s):(z.modify j fun e=>{e with key:=.string s,val:=v}).toList.map (fun e=>(e.key,e.val))=(L.modify j fun p=>(p.1,v)).map (fun p=>(Value.string p.1,p.2)):=by
 have J:z.size=L.length:=by have:=congrArg List.length B;simpa using this
 apply Yu;intro i;have E:=congrArg (fun l=>l[i]?) B;simp only[Yc,ZG]at E;simp only[Yc,ZG,Yo,Xd];by_cases y:j=i
 ·subst y
  simp[J,I,K]
 ·simp only[if_neg y]
  cases M:z[i]? <;> cases O:L[i]? <;> simp_all
theorem pu {s:ByteArray}{v:Value}{j:Nat}(hn:(L.map (·.1)).Nodup)(z:j<L.length)(E:L[j].1=s):cV L s v=L.modify j fun p=>(p.1,v):=by
 unfold cV;rw[if_pos (Yb.2 ⟨L[j],Zq z,by simp[E]⟩)];apply Yu;intro i;simp only[Yc,Xd];by_cases y:j=i
 ·subst y;simp[z,E]
 ·simp only[if_neg y]
  cases I:L[i]? with
  | none=>simp
  | some p =>
    obtain⟨K,rfl⟩:=Yd.1 I
    have B:L[i].1≠s:=by
     intro J;have:=Xm (h₀:=by simpa using z) (h₁:=by simpa using K) hn;simp only[Xa]at this;exact y (this.1 (E.trans J.symm))
    simp[B]
theorem qy (L:eR)(s:ByteArray)(v:Value)(h:L.any (fun p=>decide (p.1=s))=true):(cV L s v).map (·.1)=L.map (·.1):=by
 unfold cV;rw[if_pos h,Yw];apply YS;intro p _;simp only[Function.comp]
 split <;> rfl
theorem of {s:ByteArray}{j:Nat}(y:j<L.length)(z:L[j].1=s):L.any (fun p=>decide (p.1=s))=true:=by
 exact Yb.2 ⟨L[j],Zq y,by simp[z]⟩
theorem fb.put {E:Array MapEntry}{c:Nat}(y:fb E c L)(s:ByteArray)(v:Value) :
 ∃O c',(match Instr.findNow .string (.string s) E.toList 0 with
  | some (some (i,_))=>Obj.map (E.modify i fun e=>{e with key:=.string s,val:=v}) c
  | _=>.map (E.push {key:=.string s,val:=v,born:=c}) (c+1))=.map O c'/\fb O c' (cV L s v):=by
 have J:=dd s E.toList L 0 y.keys;simp only[ZM]at J
 cases V:L.findIdx? (fun p=>decide (p.1=s))with
 | none =>
   rw[V]at J;simp only[Option.bind_none]at J;rw[J]
   have z:L.any (fun p=>decide (p.1=s))=false:=by
    rw[ZV]at V;rw[Y3];intro p hp;simpa using V p hp
   have B:Sl.cV L s v=L++[(s,v)]:=by unfold Sl.cV;rw[if_neg (by rw[z];simp)]
   refine⟨_,_,rfl,?_⟩;rw[B];refine⟨by simp[y.keys],?_,?_,?_⟩
   ·simp only[Xt]
    rw[Yf];exact⟨y.born,by simp,fun a Y b U=>by simp at U;subst U;exact y.lt a Y⟩
   ·intro e K
    simp only[Xt,ZA,ZE]at K;rcases K with K | rfl
    ·have:=y.lt e K;omega
    ·simp
   ·rw[ZP,Yx]
    refine⟨y.nodup,by simp,?_⟩;intro a Y b U;simp at U;subst U;rintro rfl;rw[Zz]at Y;obtain⟨p,hp,rfl⟩:=Y;rw[Y3]at z;exact z p hp (by simp)
 | some j =>
   rw[V]at J;obtain⟨Z,hk,_⟩:=Zk.1 V;have aa:L[j]?=some L[j]:=Zg Z;have M:L[j].1=s:=by simpa using hk
   simp only[Option.bind_some,aa,Option.map_some]at J;rw[J];refine⟨_,_,rfl,?_⟩;have B:=pu (v:=v) y.nodup Z M;refine⟨by rw[B];exact om Z y.keys M,?_,?_,by rw[qy L s v (of Z M)];exact y.nodup⟩
   ·have e:(E.modify j fun e=>{e with key:=.string s,val:=v}).toList.map (·.born)=E.toList.map (·.born):=by
     apply Yu;intro i;simp only[Yc,ZG,Yo]
     split
     ·cases E[i]? <;> simp
     ·rfl
    have:=y.born;have h1:(E.toList.map (·.born)).Pairwise (·<·):=Y5.2 this;rw[<-e]at h1;exact Y5.1 h1
   ·intro e K
    rw[zak]at K;obtain⟨i,I⟩:=K;simp only[ZG,Yo]at I
    split at I
    ·cases h2:E[i]? with
     | none=>rw[h2]at I;simp at I
     | some x =>
       rw[h2]at I;simp at I;subst I;exact y.lt x (Xb (by rw[ZG];exact h2))
    ·exact y.lt e (Xb (by rw[ZG];exact I))
theorem fb.del {y:Array MapEntry}{c:Nat}(z:fb y c L)(s:ByteArray) :
 ∃K c',(match Instr.findNow .string (.string s) y.toList 0 with
  | some (some (i,_))=>Obj.map (y.eraseIdxIfInBounds i) c
  | _=>.map y c)=.map K c'/\fb K c' (cG L s):=by
 have B:=dd s y.toList L 0 z.keys;simp only[ZM]at B
 cases M:L.findIdx? (fun p=>decide (p.1=s))with
 | none =>
   rw[M]at B;simp only[Option.bind_none]at B;rw[B]
   have hd:Sl.cG L s=L:=by
    unfold Sl.cG;rw[ZR];rw[ZV]at M;intro p hp;simpa using M p hp
   exact⟨_,_,rfl,by rw[hd];exact z⟩
 | some j =>
   rw[M]at B;obtain⟨I,hk,_⟩:=Zk.1 M;have V:L[j]?=some L[j]:=Zg I;have Y:L[j].1=s:=by simpa using hk
   simp only[Option.bind_some,V,Option.map_some]at B;rw[B];have hl:y.size=L.length:=by have:=congrArg List.length z.keys;simpa using this
   have E:(y.eraseIdxIfInBounds j).toList=y.toList.eraseIdx j:=by
    rw[Array.eraseIdxIfInBounds,dif_pos oMg];simp[]
   have hd:Sl.cG L s=L.eraseIdx j:=by
    unfold Sl.cG
    have U:∀(l:eR)(j:Nat)(I:j<l.length),(l.map (·.1)).Nodup->l[j].1=s->l.filter (fun p => !decide (p.1=s))=l.eraseIdx j:=by
     intro l
     induction l with
     | nil=>intro j I;simp at I
     | cons p l ih =>
       intro j I hn J;rw[Zy,Yq]at hn
       cases j with
       | zero =>
         simp only[List.getElem_cons_zero]at J;simp only[XF,List.tail_cons];rw[YZ,if_neg (by simp[J]),ZR];intro q hq;have:q.1≠s:=fun e=>hn.1 (by rw[J,<-e];exact ZC hq);simp[this]
       | succ j =>
         simp only[List.getElem_cons_succ]at J;have O:j<l.length:=by simpa using I
         have Z:p.1≠s:=fun e=>hn.1 (by rw[e,<-J];exact ZC (Zq O));rw[YZ,if_pos (by simp[Z]),List.eraseIdx_cons_succ,ih j O hn.2 J]
    exact U L j I z.nodup Y
   refine⟨_,_,rfl,?_⟩;rw[hd];refine⟨by rw[E,dq,z.keys,<-dq],?_,?_,?_⟩
   ·rw[E];exact z.born.sublist (Yy _ _)
   ·rw[E];exact fun e he=>z.lt e ((Yy _ _).subset he)
   ·rw[dq];exact z.nodup.sublist (Yy _ _)
theorem ms {F:ba}{J:eR}{E:World} [m:Mod w w0 S] [tk:eM S (gv r) L F](U:E.os=w.os)(V:E.tape=w.tape)(Y:E.output=w.output)
 (h:∀z c,fb z c L->w.heap[r]?=some (.map z c)->∃y c',E.heap=w.heap.setIfInBounds r (.map y c')/\fb y c' J):Mod E w0 (gv r J*F):=by
 have hb:dc S r L:=by rw[tk.eq];infer_instance
 obtain⟨z,c,Z,M⟩:=mapBlock (w0:=w0) (S:=S) (r:=r) (L:=L) w;obtain⟨y,c',K,I⟩:=h z c Z M;have hr:r<w.heap.size:=(ZX.1 M).1;refine Mod.turn (w:=w) (g:=r) (pred:=gv r) (u:=L) U V Y (fun k B=>?_) (fun x ⟨z,c,_,O⟩=>?_) (fun x ⟨z,c,_,O⟩ _=>?_)
 ·rw[K,YX (Ne.symm B)]
 ·rw[O];exact⟨fun k B=>by simp[Hp.one,B],by simp[Hp.one]⟩
 ·refine⟨y,c',I,?_⟩
  funext k
  by_cases B:k=r
  ·subst B;simp[Hp.one,K,hr]
  ·simp[Hp.one,B]
instance Mod.oB {F:ba}{s:ByteArray}{v:Value} [m:Mod w w0 S] [K:eM S (gv r) L F]:Mod (w.oB r s v) w0 (gv r (cV L s v)*F):=by
 have M:dc S r L:=by rw[K.eq];infer_instance
 obtain⟨E,c,B,y⟩:=mapBlock (w0:=w0) (S:=S) (r:=r) (L:=L) w;refine ms (w:=w) (L:=L) (F:=F) ?_ ?_ ?_ (fun E c B y=>?_)
 ·simp[World.oB,y]
 ·simp[World.oB,y]
 ·simp[World.oB,y]
 ·obtain⟨z,c',I,J⟩:=B.put s v
  exact⟨z,c',by simp only[World.oB,y];rw[<-I],J⟩
instance Mod.nG {F:ba}{s:ByteArray} [m:Mod w w0 S] [K:eM S (gv r) L F]:Mod (w.nG r s) w0 (gv r (cG L s)*F):=by
 have M:dc S r L:=by rw[K.eq];infer_instance
 obtain⟨E,c,B,y⟩:=mapBlock (w0:=w0) (S:=S) (r:=r) (L:=L) w;refine ms (w:=w) (L:=L) (F:=F) ?_ ?_ ?_ (fun E c B y=>?_)
 ·simp[World.nG,y]
 ·simp[World.nG,y]
 ·simp[World.nG,y]
 ·obtain⟨z,c',I,J⟩:=B.del s
  exact⟨z,c',by simp only[World.nG,y];rw[<-I],J⟩
end
class Sub (S F:ba):Prop where
 sub:∀x,(S*OY).says x->(F*OY).says x
instance Sub.refl (S:ba):Sub S S:=⟨fun _ h=>h⟩
instance Sub.left (A B F:ba) [s:Sub A F]:Sub (A*B) F:=⟨fun x h=>by
 rw[bo]at h;obtain⟨a,b,y,z,E,I⟩:=h
 refine s.sub x ⟨a,b,y,z,E,trivial⟩⟩
instance Sub.right (A B F:ba) [s:Sub B F]:Sub (A*B) F:=⟨fun x h=>by
 rw[ii A B,bo]at h;obtain⟨a,b,y,z,E,I⟩:=h
 refine s.sub x ⟨a,b,y,z,E,trivial⟩⟩
theorem Mod.sub {w w0:World}{S:ba}(F:ba) [m:Mod w w0 S] [s:Sub S F]:Mod w w0 F:=⟨m.os,m.tape,m.output,s.sub _ m.says⟩
theorem Mod.start (w:World):Mod w w (vG (hp w)) :=
 ⟨rfl,rfl,rfl,hp w,Hp.none,fun _=>.inr rfl,by funext k;simp[Hp.join,Hp.none],rfl,trivial⟩
theorem Mod.below {w B w0:World}{S:ba} [m:Mod w w0 S](h:Go.RowKit.Below w.heap.size w B):Mod B w0 S:=by
 refine⟨h.os.trans m.os,h.tape.trans m.tape,h.output.trans m.output,?_⟩;obtain⟨a,b,I,E,J,_⟩:=m.says;have K:∀k,k<w.heap.size->hp B k=hp w k:=fun k y=>h.block k y;have hn:∀k,w.heap.size<=k->hp w k=none:=fun k y=>YN y;refine⟨a,fun k=>if k<w.heap.size then b k else hp B k,fun k=>?_,?_,J,trivial⟩
 ·by_cases y:k<w.heap.size
  ·simp only[y,if_true];exact I k
  ·left
   have:=hn k oMg;rw[E]at this
   cases z:a k with
   | none=>rfl
   | some o=>simp[Hp.join,z]at this
 ·funext k
  by_cases y:k<w.heap.size
  ·rw[K k y,E];simp[Hp.join,y]
  ·have:=hn k oMg
   rw[E]at this;have z:a k=none:=by cases z:a k with | none=>rfl | some o=>simp[Hp.join,z]at this
   simp[Hp.join,y,z]
theorem CL {w w0:World}(m:Mod w w0 (vG (hp w0))):Go.RowKit.Below w0.heap.size w0 w:=by
 obtain⟨a,b,I,E,y,_⟩:=m.says;have y:a=hp w0:=y
 have key:∀k,k<w0.heap.size->w.heap[k]?=w0.heap[k]?:=by
  intro k z;have e:hp w k=(hp w0 k).or (b k):=by rw[E,y];rfl
  have B:hp w0 k=some w0.heap[k]:=by simp[hp,z]
  rw[B]at e;simp only[hp,Option.some_or]at e;rw[e];simp[z]
 refine⟨m.os,m.tape,m.output,?_,key⟩;rcases XH w.heap.size w0.heap.size with h | h
 ·have:=key w.heap.size h
  rw[YN (Zm _)]at this;simp[h]at this
 ·exact h
open Go
def ar (e:TypeId)(size:Nat)(v:Value)(n:Nat)(xs:List Value):ba :=
 ⟨fun h=>xs.length=n*size/\((v=.slice none 0 0/\n=0/\h=Hp.none) \/
   ∃g cap cur,v=.slice (some ⟨g,0,none⟩) n cap/\n<=cap/\cap<=maxLen/\cur.size=cap*size/\cur.toList.take (n*size)=xs/\h=Hp.one g (.cells cur e (0,0)))⟩
theorem gM (e:TypeId)(size:Nat):(ar e size (.slice none 0 0) 0 []).says Hp.none:=⟨by simp,.inl ⟨rfl,rfl,rfl⟩⟩
theorem Mod.part {w w0:World}{A F:ba}(m:Mod w w0 (A*F)):∃a,A.says a/\∀k o,a k=some o->w.heap[k]?=some o:=by
 have h:=m.says;rw[bo]at h;obtain⟨a,b,_,y,z,_⟩:=h;refine⟨a,z,fun k o B=>?_⟩;have:hp w k=some o:=by rw[y];simp[Hp.join,B]
 exact this
theorem fW {w w0:World}{e:TypeId}{size n:Nat}{v:Value}{xs:List Value}{F:ba}(m:Mod w w0 (ar e size v n xs*F)):w.ownsRow 0 e size v n xs:=by
 obtain⟨a,⟨J,h⟩,K⟩:=m.part;refine⟨J,?_⟩;rcases h with⟨y,hn,_⟩ | ⟨g,cap,cur,y,z,B,E,I,rfl⟩
 ·exact .inl ⟨y,hn⟩
 ·exact .inr ⟨g,cap,cur,y,Zv _,K g _ (by simp[Hp.one]),z,B,E,I⟩
theorem Mod.rK {w M w0:World}{e:TypeId}{size n n':Nat}{v v':Value}{xs aa:List Value}{F:ba}(m:Mod w w0 (ar e size v n xs*F))
 (I:M.ownsRow 0 e size v' n' aa) (hg:w.grownBy M v.ownBlock) (hb:v'.ownBlock=v.ownBlock\/v'.ownBlock=some w.heap.size):Mod M w0 (ar e size v' n' aa*F):=by
 refine⟨hg.os.trans m.os,hg.tape.trans m.tape,hg.output.trans m.output,?_⟩;have hs:=m.says;rw[bo]at hs ⊢;obtain⟨a,b,O,hj,⟨hl,ha⟩,Y⟩:=hs
 have ah:∀k o,b k=some o->k<w.heap.size:=fun k o y=>by
  have:hp w k=some o:=by
   rw[hj];rcases O k with h | h
   ·simp[Hp.join,h,y]
   ·rw[y]at h;cases h
  exact(ZX.1 this).1
 have Z:∀k,w.heap.size<=k->a k=none/\b k=none:=fun k y=>by
  have h0:hp w k=none:=YN y;rw[hj]at h0
  cases h1:a k with
  | none=>simp[Hp.join,h1]at h0;exact⟨rfl,h0⟩
  | some o=>simp[Hp.join,h1]at h0
 have z:∀g,v.ownBlock=some g->b g=none:=fun g B=>by
  rcases ha with⟨hv,_,_⟩ | ⟨g0,cap,cur,hv,_,_,_,_,rfl⟩
  ·rw[hv]at B;simp[Value.ownBlock]at B
  ·rw[hv]at B
   simp[Value.ownBlock]at B;subst B;rcases O g0 with h | h
   ·simp[Hp.one]at h
   ·exact h
 have E:∀k o,b k=some o->M.heap[k]?=some o:=fun k o y=>by
  rw[hg.block k (ah k o y) (fun e=>by rw[z k e.symm]at y;cases y)]
  have:hp w k=some o:=by
   rw[hj];rcases O k with h | h
   ·simp[Hp.join,h,y]
   ·rw[y]at h;cases h
  exact this
 rcases I.2 with⟨K,ai⟩ | ⟨g,cap,cur,K,_,hh,h1,h2,h3,h4⟩
 ·-- an empty row
  refine⟨Hp.none,hp M,Hp.nK _,by rw[Hp.join_none],⟨I.1,.inl ⟨K,ai,rfl⟩⟩,?_⟩;obtain⟨f,t,ag,J,hf,_⟩:=Y;refine⟨f,fun k=>if (f k).isSome then none else hp M k,fun k=>?_,?_,hf,trivial⟩
  ·cases y:f k with
   | none=>exact .inl rfl
   | some o=>right;simp[y]
  ·funext k
   cases y:f k with
   | none=>simp[Hp.join,y]
   | some o =>
     have U:b k=some o:=by rw[J];simp[Hp.join,y]
     simp[Hp.join,y,hp,E k o U]
 ·have ae:b g=none:=by
   have e0:v'.ownBlock=some g:=by rw[K];rfl
   rcases hb with e | e
   ·exact z g (by rw[<-e];exact e0)
   ·rw[e0]at e
    injection e with e;rw[e];exact(Z _ (Zm _)).2
  obtain⟨f,t,ag,J,hf,_⟩:=Y
  have af:f g=none:=by
   have:=ae;rw[J]at this
   cases y:f g with
   | none=>rfl
   | some o=>simp[Hp.join,y]at this
  refine⟨Hp.one g (.cells cur e (0,0)),fun k=>if k=g then none else hp M k,fun k=>?_,?_,⟨I.1,.inr ⟨g,cap,cur,K,h1,h2,h3,h4,rfl⟩⟩,?_⟩
  ·by_cases y:k=g
   ·right;simp[y]
   ·left;simp[Hp.one,y]
  ·funext k
   by_cases y:k=g
   ·subst y;simp[Hp.join,Hp.one,hp,hh]
   ·simp[Hp.join,Hp.one,y]
  ·refine⟨f,fun k=>if k=g\/(f k).isSome then none else hp M k,fun k=>?_,?_,hf,trivial⟩
   ·cases y:f k with
    | none=>exact .inl rfl
    | some o=>right;simp[y]
   ·funext k
    by_cases V:k=g
    ·subst V;simp[Hp.join,af]
    ·cases y:f k with
     | none=>simp[Hp.join,y,V]
     | some o =>
       have U:b k=some o:=by rw[J];simp[Hp.join,y]
       simp[Hp.join,y,V,hp,E k o U]
class bk (S:ba)(A:Option Addr)(n:Nat)(xs:outParam (List Value)):Prop where
 len:∀h,S.says h->xs.length=n
 cell:∀h,S.says h->0<n->∃ad,A=some ad/\ad.spot=none/\∀j u,xs[j]?=some u->∃c e f,h ad.block=some (.cells c e f)/\c[ad.off+j]?=some u
instance bk.left (A B:ba)(a:Option Addr)(n:Nat)(xs:List Value) [r:bk A a n xs]:bk (A*B) a n xs :=
 ⟨by rintro h ⟨x,y,_,rfl,z,_⟩;exact r.len x z,by
   rintro h ⟨x,y,_,rfl,z,_⟩ hn;obtain⟨ad,I,M,J⟩:=r.cell x z hn;refine⟨ad,I,M,fun j u O=>?_⟩;obtain⟨c,e,f,K,E⟩:=J j u O
   exact⟨c,e,f,by simp[Hp.join,K],E⟩⟩
instance bk.right (A B:ba)(a:Option Addr)(n:Nat)(xs:List Value) [r:bk B a n xs]:bk (A*B) a n xs :=
 ⟨by rintro h ⟨x,y,_,rfl,_,z⟩;exact r.len y z,by
   rintro h ⟨x,y,J,rfl,_,z⟩ hn;obtain⟨ad,K,O,M⟩:=r.cell y z hn;refine⟨ad,K,O,fun j u U=>?_⟩;obtain⟨c,e,f,I,E⟩:=M j u U;refine⟨c,e,f,?_,E⟩;rcases J ad.block with h | h
   ·simp[Hp.join,h,I]
   ·rw[h]at I;cases I⟩
instance bk.row (e:TypeId)(a:Option Addr)(n c:Nat)(xs:List Value):bk (ar e 1 (.slice a n c) n xs) a n xs :=
 ⟨fun h z=>by have:=z.1;simpa using this,fun h z hn=>by
   rcases z.2 with⟨_,I,_⟩ | ⟨g,cap,cur,B,J,K,M,E,rfl⟩
   ·omega
   ·injection B with B
    refine⟨_,B,rfl,fun j u y=>⟨cur,e,(0,0),by simp[Hp.one],?_⟩⟩;rw[<-E]at y;rw[Xp]at y
    split at y
    ·simpa using y
    ·cases y⟩
theorem cP {w w0:World}{S:ba}{A:Option Addr}{n:Nat}{xs:List Value}(m:Mod w w0 S)(r:bk S A n xs)(hn:0<n) :
 ∃ad,A=some ad/\ad.spot=none/\∀j u,xs[j]?=some u->w.cell? ⟨ad.block,ad.off+j,none⟩=some u:=by
 obtain⟨a,b,_,z,B,_⟩:=m.says;obtain⟨ad,E,K,I⟩:=r.cell a B hn;refine⟨ad,E,K,fun j u M=>?_⟩;obtain⟨c,e,f,J,y⟩:=I j u M;have:hp w ad.block=some (.cells c e f):=by rw[z];simp[Hp.join,J]
 have this:w.heap[ad.block]?=some (.cells c e f):=this;simp[World.cell?,this,y]
theorem fp {w w0:World}{S:ba}{A:Option Addr}{n:Nat}{xs:List Value}(m:Mod w w0 S)(r:bk S A n xs):xs.length=n:=by
 obtain⟨a,b,_,z,y,_⟩:=m.says;exact r.len a y
theorem jl (ad:Addr)(j:Nat)(h:ad.spot=none):ad.add j=⟨ad.block,ad.off+j,none⟩:=by
 unfold Addr.add
 cases ad with
 | mk b o s =>
   simp at h;subst h;by_cases y:j=0 <;> simp[y]
theorem s5 {P:Program}{w w0:World}{S F:ba}(t ty e:TypeId)(i:TypeInfo)(z:Value)(bytes:Nat)(ht:P.underlying t=some (.slice e))(V:P.info? e=some i)(hz:i.zero=some z)
 (J:i.size=1) (U:i.bytes=bytes) (aa:z.cells.size=1) (v:Value) (n:Nat) (xs:List Value) (m:Mod w w0 (ar e 1 v n xs*F))
 (A:Option Addr) (k c:Nat) (news:List Value) [mS:Mod w w0 S] [r:bk S A k news] (h1:∀u∈news,u.oneCell'=true) (O:n+k<=maxLen) (B:(n+k)*bytes<=140737488355328) :
 ∃v' M,(Builtin.append_ #[t,t] ty #[v,.slice A k c]).run P w=.ok v' M/\Mod M w0 (ar e 1 v' (n+k) (xs++news)*F)/\(v'=.slice none 0 0\/∃g cap,v'=.slice (some ⟨g,0,none⟩) (n+k) cap):=by
 have y:=fW m;have E:=fp mS r;rcases YD k with Y | Y
 ·subst Y
  have I:news=[]:=Zo E;subst I;refine⟨v,w,?_,by simpa using m,?_⟩
  ·rcases y.2 with⟨rfl,rfl⟩ | ⟨g,cap,cur,rfl,_,hh,Z,_⟩
   ·cases A <;> simp[Builtin.append_,run_underlying ht,sizeOf,typeInfo,V,Builtin.lenOf,Builtin.firstCells,loadCells,loadCellsFrom]
   ·cases A <;> simp[Builtin.append_,run_underlying ht,sizeOf,typeInfo,V,Builtin.lenOf,Builtin.firstCells,loadCells,loadCellsFrom,Z,storeCells]
  ·rcases y.2 with⟨rfl,rfl⟩ | ⟨g,cap,cur,rfl,_⟩
   ·exact .inl rfl
   ·exact .inr ⟨g,cap,rfl⟩
 ·obtain⟨ad,rfl,hs,hc⟩:=cP mS r Y
  obtain⟨v',M,K,h2,h3,h4,h5⟩:=run_append_own_at (P:=P) w 0 t ty e i z 1 bytes ht V hz J U aa oMg v n xs y ad k c news (by simpa using E)
   (fun j u hu=>by rw[jl ad j hs];exact hc j u hu) h1 O B (Zv _)
  refine⟨v',M,K,m.rK h2 h3 h5,?_⟩;rcases h2.2 with⟨rfl,h0⟩ | ⟨g,cap,cur,rfl,_⟩
  ·omega
  ·exact .inr ⟨g,cap,rfl⟩
theorem wh {P:Program}{w w0:World}{S F:ba}{I:Array Oper}{rest:List Oper}{o:Oper}{a:Act}{Q:Exit->Act->World->Prop}(O:o.guard=none)(s x:Operand)(t:TypeId)
 (ho:o.op=.call {callee:=.builtin .append,args:=#[s,x],argTypes:=#[t,t]})
 (e:TypeId) (i:TypeInfo) (z:Value) (bytes:Nat) (ht:P.underlying t=some (.slice e)) (hi:P.info? e=some i) (hz:i.zero=some z)
 (B:i.size=1) (M:i.bytes=bytes) (U:z.cells.size=1) (v:Value) (n:Nat) (xs:List Value) (hs:a.eval s=v) (m:Mod w w0 (ar e 1 v n xs*F))
 (A:Option Addr) (k c:Nat) (news:List Value) (hx:a.eval x=.slice A k c) [mS:Mod w w0 S] [r:bk S A k news] (V:∀u∈news,u.oneCell'=true) (K:n+k<=maxLen) (y:(n+k)*bytes<=140737488355328)
 (h:∀v' J,Mod J w0 (ar e 1 v' (n+k) (xs++news)*F)->(v'=.slice none 0 0\/∃g cap,v'=.slice (some ⟨g,0,none⟩) (n+k) cap)->wpList P I Q rest (a.put o.dst v') J):wpList P I Q (o::rest) a w :=
 wpList_plain O fun _ hK=>by
  obtain⟨v',J,E,Y,Z⟩:=s5 (P:=P) (S:=S) t o.type e i z bytes ht hi hz B M U v n xs m A k c news V K y;unfold Oper.wp execOp;simp only[ho,resolve,invoke,builtin,Sem.run_bind,Sem.run_pure,Result.andThen_ok,Y0,Zy,Ye,hs,hx,E];exact hK _ _ (h v' J Y Z)
def NH (P:Program)(e:TypeId)(bytes:Nat):Bool:=match P.info? e with
 | some i=>(match i.zero with | some z=>decide (z.cells.size=1) | none=>false)&&decide (i.size=1)&&decide (i.bytes=bytes)
 | none=>false
class wl (P:Program)(t:TypeId)(e:outParam TypeId)(bytes:outParam Nat):Prop where
 ht:P.underlying t=some (.slice e)
 ok:NH P e bytes=true
theorem wl.get {P:Program}{t e:TypeId}{bytes:Nat}(T:wl P t e bytes):∃i z,P.info? e=some i/\i.zero=some z/\i.size=1/\i.bytes=bytes/\z.cells.size=1:=by
 have h:=T.ok;unfold NH at h
 cases B:P.info? e with
 | none=>rw[B]at h;cases h
 | some i =>
   rw[B]at h
   cases y:i.zero with
   | none=>simp[y]at h
   | some z=>simp[y]at h;exact⟨i,z,rfl,y,h.1.2,h.2,h.1.1⟩
theorem cS {P:Program}{w w0:World}{E F:ba}{J:Array Oper}{rest:List Oper}{o:Oper}{a:Act}{Q:Exit->Act->World->Prop}{s x:Operand}{t:TypeId}{e:TypeId}{bytes:Nat} [T:wl P t e bytes](U:o.guard=none)
 (ho:o.op=.call {callee:=.builtin .append,args:=#[s,x],argTypes:=#[t,t]}) (m:Mod w w0 E) {v:Value} {n:Nat} {xs:List Value} (hs:a.eval s=v) [tk:eM E (fun q:Nat×List Value=>ar e 1 v q.1 q.2) (n,xs) F]
 {A:Option Addr} {k c:Nat} {news:List Value} (hx:a.eval x=.slice A k c) [r:bk E A k news] (I:∀u∈news,u.oneCell'=true) (M:n+k<=maxLen) (y:(n+k)*bytes<=140737488355328)
 (h:∀A' c' K,Mod K w0 (ar e 1 (.slice A' (n+k) c') (n+k) (xs++news)*F)->wpList P J Q rest (a.put o.dst (.slice A' (n+k) c')) K):wpList P J Q (o::rest) a w:=by
 obtain⟨i,z,hi,hz,B,O,Y⟩:=T.get;have e0:E=ar e 1 v n xs*F:=tk.eq;refine wh (S:=E) U s x t ho e i z bytes T.ht hi hz B O Y v n xs hs (Mod.to e0) A k c news hx I M y fun v' K Z hv=>?_
 have V:∃A' c',v'=.slice A' (n+k) c':=by
  rcases (fW Z).2 with⟨I,h2⟩ | ⟨g,cap,cur,I,_⟩
  ·exact⟨none,0,by rw[I,h2]⟩
  ·exact⟨_,_,I⟩
 obtain⟨A',c',rfl⟩:=V;exact h A' c' K Z
instance eM.Pm (e:TypeId)(size:Nat)(v:Value)(n:Nat)(xs:List Value):eM (ar e size v n xs) (fun q:Nat×List Value=>ar e size v q.1 q.2) (n,xs) sC:=⟨(eI _).symm⟩
theorem bk.sub {S:ba}{ad:Addr}{n:Nat}{xs:List Value}(r:bk S (some ad) n xs)(i k:Nat)(h:i+k<=n):bk S (some (ad.add i)) k ((xs.drop i).take k) :=
 ⟨fun x B=>by have:=r.len x B;simp;omega,fun x B O=>by
   obtain⟨I,z,E,M⟩:=r.cell x B oMg;injection z with z;subst z;refine⟨_,rfl,?_,fun j u y=>?_⟩
   ·rw[jl _ _ E]
   ·rw[Xp]at y
    split at y
    ·rw[za2]at y
     obtain⟨c,e,f,J,K⟩:=M (i+j) u y;rw[jl _ _ E];exact⟨c,e,f,J,by rw[<-K];congr 1;show _+i+j=_;omega⟩
    ·cases y⟩
theorem bk.part {S:ba}{A:Option Addr}{n:Nat}{xs:List Value}(r:bk S A n xs)(i k:Nat)(h:i+k<=n):bk S (A.map (·.add i)) k ((xs.drop i).take k):=by
 cases A with
 | some ad=>exact r.sub i k h
 | none=>exact⟨fun x y=>by have:=r.len x y;simp;omega,fun x y E=>by obtain⟨z,B,_⟩:=r.cell x y oMg;cases B⟩
theorem bk.pre {S:ba}{A:Option Addr}{n:Nat}{xs:List Value}(r:bk S A n xs)(k:Nat)(h:k<=n):bk S A k (xs.take k) :=
 ⟨fun x z=>by have:=r.len x z;simp;omega,fun x z J=>by
   obtain⟨ad,B,I,E⟩:=r.cell x z oMg;refine⟨ad,B,I,fun j u y=>?_⟩;rw[Xp]at y
   split at y
   ·exact E j u y
   ·cases y⟩
theorem bk.jE {S:ba}(A:Option Addr):bk S A 0 []:=⟨fun _ _=>rfl,fun _ _ h=>absurd h (by simp)⟩
theorem Mod.Mq {w E w0:World}{S:ba}{e:TypeId}{size n:Nat}{v:Value}{xs:List Value}(m:Mod w w0 S){N:Nat}(hN:N=w.heap.size)(K:Go.RowKit.Below N w E)(B:E.ownsRow N e size v n xs):Mod E w0 (ar e size v n xs*S):=by
 subst hN;refine⟨K.os.trans m.os,K.tape.trans m.tape,K.output.trans m.output,?_⟩;obtain⟨a,b,aa,Z,Y,_⟩:=m.says
 have J:∀k o,a k=some o->k<w.heap.size:=fun k o y=>by
  have:hp w k=some o:=by rw[Z];simp[Hp.join,y]
  exact(ZX.1 this).1
 have z:∀k o,a k=some o->hp E k=some o:=fun k o y=>by
  have M:hp w k=some o:=by rw[Z];simp[Hp.join,y]
  have O:hp E k=hp w k:=K.block k (J k o y);rw[O,M]
 rw[bo];rcases B.2 with⟨V,hn⟩ | ⟨g,cap,cur,V,hg,hh,M,O,h3,h4⟩
 ·refine⟨Hp.none,hp E,Hp.nK _,by rw[Hp.join_none],⟨B.1,.inl ⟨V,hn,rfl⟩⟩,a,fun k=>if (a k).isSome then none else hp E k,fun k=>?_,?_,Y,trivial⟩
  ·cases y:a k with
   | none=>exact .inl rfl
   | some o=>right;simp[y]
  ·funext k
   cases y:a k with
   | none=>simp[Hp.join,y]
   | some o=>simp[Hp.join,y,z k o y]
 ·have U:a g=none:=by
   cases y:a g with
   | none=>rfl
   | some o=>have:=J g o y;omega
  refine⟨Hp.one g (.cells cur e (0,0)),fun k=>if k=g then none else hp E k,fun k=>?_,?_,⟨B.1,.inr ⟨g,cap,cur,V,M,O,h3,h4,rfl⟩⟩,a,fun k=>if k=g\/(a k).isSome then none else hp E k,fun k=>?_,?_,Y,trivial⟩
  ·by_cases y:k=g
   ·right;simp[y]
   ·left;simp[Hp.one,y]
  ·funext k
   by_cases y:k=g
   ·subst y;simp[Hp.join,Hp.one,hp,hh]
   ·simp[Hp.join,Hp.one,y]
  ·cases y:a k with
   | none=>exact .inl rfl
   | some o=>right;simp[y]
  ·funext k
   by_cases I:k=g
   ·subst I;simp[Hp.join,U]
   ·cases y:a k with
    | none=>simp[Hp.join,y,I]
    | some o=>simp[Hp.join,y,I,z k o y]
def kQ (it r:Nat)(L left:eR)(cur:Option (ByteArray×Value)):ba :=
 ⟨fun h=>∃B y z,fb B y L/\it≠r/\h=Hp.join (Hp.one r (.map B y)) (Hp.one it (.mapIter (some r) y z y)) /\
   (B.toList.filter fun e => !z.contains e.born).map (fun e=>(e.key,e.val))=left.map (fun p=>(Value.string p.1,p.2)) /\
   (∀s v,cur=some (s,v)->∃e b,z.back?=some b/\B.toList.find? (fun e=>e.born==b)=some e/\e.key=.string s/\e.val=v)⟩
section
variable {P:Program}{w w0:World}{S F:ba}{r it:Nat}{L left:eR}{cur:Option (ByteArray×Value)}
theorem uw (m:Mod w w0 (kQ it r L left cur*F)):∃B z y,fb B z L/\it≠r/\w.heap[r]?=some (.map B z)/\w.heap[it]?=some (.mapIter (some r) z y z) /\
 (B.toList.filter fun e => !y.contains e.born).map (fun e=>(e.key,e.val))=left.map (fun p=>(Value.string p.1,p.2)) /\
 (∀s v,cur=some (s,v)->∃e b,y.back?=some b/\B.toList.find? (fun e=>e.born==b)=some e/\e.key=.string s/\e.val=v):=by
 have h:=m.says;rw[bo]at h;obtain⟨a,b,_,I,⟨B,c,y,O,E,J,M,K⟩,_⟩:=h;refine⟨B,c,y,O,E,?_,?_,M,K⟩
 ·have:hp w r=some (.map B c):=by rw[I,J];simp[Hp.join,Hp.one]
  exact this
 ·have:hp w it=some (.mapIter (some r) c y c):=by rw[I,J];simp[Hp.join,Hp.one,E]
  exact this
def _root_.Go.World.lh (w:World)(r:Nat):World :=
 match w.heap[r]? with
 | some (.map _ clock)=>w.alloc (.mapIter (some r) clock #[] clock)
 | _=>w
theorem Aq {t:TypeId} [Mod w w0 S] [dc S r L] [T:od P t]:(Instr.range t (.map (some r))).run P w=.ok (.pointer (some ⟨w.heap.size,0,none⟩)) (w.lh r):=by
 obtain⟨z,c,B,y⟩:=mapBlock (w0:=w0) (S:=S) (r:=r) (L:=L) w;simp[Instr.range,run_underlying T.map,fB y,World.lh,y]
attribute [go_sem] Aq
instance Mod.lh {n:Nat} [hn:lY w n] [m:Mod w w0 S] [t:eM S (gv r) L F]:Mod (w.lh r) w0 (kQ n r L L none*F):=by
 obtain rfl:=hn.eq;have hb:dc S r L:=by rw[t.eq];infer_instance
 have h:=m.says;rw[t.eq,bo]at h;obtain⟨a,b,J,E,⟨y,c,U,I⟩,K⟩:=h
 have V:w.heap[r]?=some (.map y c):=by
  have:hp w r=some (.map y c):=by rw[E,I];simp[Hp.join,Hp.one]
  exact this
 have hr:r<w.heap.size:=(ZX.1 V).1;have M:w.lh r=w.alloc (.mapIter (some r) c #[] c):=by simp[World.lh,V]
 rw[M];refine⟨m.os,m.tape,m.output,?_⟩;rw[bo];obtain⟨Y,Z⟩:=zw w (.mapIter (some r) c #[] c);refine⟨Hp.join (Hp.one r (.map y c)) (Hp.one w.heap.size (.mapIter (some r) c #[] c)),b,?_,?_,⟨y,c,#[],U,oMg,rfl,?_,fun s v h=>by cases h⟩,K⟩
 ·intro k
  by_cases z:k=w.heap.size
  ·right
   have B:hp w k=none:=by rw[z];simp[hp]
   rw[E]at B
   cases O:a k with
   | none=>simpa [Hp.join,O]using B
   | some o=>simp[Hp.join,O]at B
  ·rcases J k with h | h
   ·left
    rw[I]at h;simp only[Hp.join,h,Option.none_or];simp[Hp.one,z]
   ·exact .inr h
 ·rw[Y,E,I]
  funext k
  simp only[Hp.join];by_cases z:k=w.heap.size
  ·have:Hp.one r (Obj.map y c) k=none:=by simp only[Hp.one];rw[if_neg oMg]
   simp[Hp.one,z];rw[if_neg oMg];simp
  ·have:Hp.one w.heap.size (Obj.mapIter (some r) c #[] c) k=none:=by simp[Hp.one,z]
   simp[this]
 ·have:(y.toList.filter fun e => !(#[]:Array Nat).contains e.born)=y.toList:=by rw[ZR];intro e _;simp
  rw[this];exact U.keys
class kG (S:ba)(it:Nat)(s:outParam ByteArray)(v:outParam Value):Prop where
 has:∀h,S.says h->∃r es clock seen e b,h r=some (.map es clock)/\h it=some (.mapIter (some r) clock seen clock)/\seen.back?=some b/\es.toList.find? (fun e=>e.born==b)=some e/\e.key=.string s/\e.val=v
instance kG.iter {s:ByteArray}{v:Value}:kG (kQ it r L left (some (s,v))) it s v :=
 ⟨fun h ⟨E,c,y,U,z,B,_,O⟩=>by
   obtain⟨e,b,I,J,K,M⟩:=O s v rfl
   exact⟨r,E,c,y,e,b,by rw[B];simp[Hp.join,Hp.one],by rw[B];simp[Hp.join,Hp.one,z],I,J,K,M⟩⟩
instance kG.Lw (A B:ba){s:ByteArray}{v:Value} [q:kG A it s v]:kG (A*B) it s v :=
 ⟨by
   rintro h ⟨x,y,_,rfl,I,_⟩;obtain⟨r,E,c,z,e,b,J,K,M⟩:=q.has x I
   exact⟨r,E,c,z,e,b,by simp[Hp.join,J],by simp[Hp.join,K],M⟩⟩
instance kG.Jt (A B:ba){s:ByteArray}{v:Value} [q:kG B it s v]:kG (A*B) it s v :=
 ⟨by
   rintro h ⟨x,y,z,rfl,_,M⟩;obtain⟨r,K,c,E,e,b,I,J,O⟩:=q.has y M;refine⟨r,K,c,E,e,b,?_,?_,O⟩
   ·rcases z r with h | h
    ·simp[Hp.join,h,I]
    ·rw[h]at I;cases I
   ·rcases z it with h | h
    ·simp[Hp.join,h,J]
    ·rw[h]at J;cases J⟩
@[go_sem] theorem BA {s:ByteArray}{v:Value} [m:Mod w w0 S] [q:kG S it s v]:(Instr.entry (.pointer (some ⟨it,0,none⟩))).run P w=.ok (.tuple #[.string s,v]) w:=by
 obtain⟨a,b0,_,J,K,_⟩:=m.says;obtain⟨r,z,c,y,e,b,Y,U,M,O,V,Z⟩:=q.has a K
 have I:w.heap[r]?=some (.map z c):=by
  have:hp w r=some (.map z c):=by rw[J];simp[Hp.join,Y]
  exact this
 have E:w.heap[it]?=some (.mapIter (some r) c y c):=by
  have:hp w it=some (.mapIter (some r) c y c):=by rw[J];simp[Hp.join,U]
  exact this
 have B:z.find? (fun e=>e.born==b)=some e:=by rw[<-Array.find?_toList];exact O
 simp[Instr.entry,fB I,fB E,M,B,V,Z]
theorem ln:∀(l:List MapEntry)(i:Nat)(z:i<l.length),l.Pairwise (fun a b=>a.born<b.born)->l.filter (fun e => !decide (e.born=l[i].born))=l.eraseIdx i
 | [],i,z,_=>by simp at z
 | e::l,0,_,h=>by
   obtain⟨B,E⟩:=Z5.1 h;simp only[List.getElem_cons_zero,XF,List.tail_cons];rw[YZ,if_neg (by simp),ZR];intro x I;have:=B x I;simp;omega
 | e::l,i+1,z,h=>by
   obtain⟨B,E⟩:=Z5.1 h;have y:i<l.length:=by simpa using z
   simp only[List.getElem_cons_succ,List.eraseIdx_cons_succ];have:=B _ (Zq y);rw[YZ,if_pos (by simp;omega),ln l i y E]
theorem CK {y:Array MapEntry}{c:Nat}(B:fb y c L)(p:MapEntry->Bool):((y.filter p).filter (fun e=>decide (e.born<c))).toList=y.toList.filter p/\((y.filter p).filter (fun e=>decide (e.born≥c))).toList=[]:=by
 constructor
 ·rw[Y2,Y2,ZR]
  intro e z;have:=B.lt e (ZB.1 z).1;simpa using this
 ·rw[Y2,Y2,Yr]
  intro e z;have:=B.lt e (ZB.1 z).1;simp;omega
theorem p9 (m:Mod w w0 (kQ it r L left cur*F))(ty:TypeId) :
 (left=[]/\∃w',(Instr.next (.pointer (some ⟨it,0,none⟩)) false ty).run P w=.ok (.tuple #[.bool false]) w'/\Mod w' w0 (kQ it r L [] cur*F)) \/
 ∃(i:Nat)(hi:i<left.length)(w':World),(Instr.next (.pointer (some ⟨it,0,none⟩)) false ty).run P w=.ok (.tuple #[.bool true,.string left[i].1,left[i].2]) w'/\Mod w' w0 (kQ it r L (left.eraseIdx i) (some left[i])*F):=by
 obtain⟨O,c,B,hm,aa,aI,ae,hl,hc⟩:=uw m;generalize Y:O.toList.filter (fun e => !B.contains e.born)=E at hl;have V:E.length=left.length:=by have:=congrArg List.length hl;simpa using this
 have Z:(!B.isEmpty && !O.isEmpty&&O.all (fun e=>decide (e.born≥c)))=false:=by
  cases he:O.isEmpty with
  | true=>simp
  | false =>
    have:O.all (fun e=>decide (e.born≥c))=false:=by
     rw[<-Array.all_toList]
     cases au:O.toList with
     | nil=>simp[Array.isEmpty,<-Array.length_toList,au]at he
     | cons e l =>
       have:=hm.lt e (by rw[au];simp);simp only[List.all_cons,zaj];left;simp;omega
    rw[this];simp
 obtain⟨ho,hn⟩:=CK hm (fun e => !B.contains e.born);rw[Y]at ho;have aN:((O.filter (fun e => !B.contains e.born)).filter (fun e=>decide (e.born<c)))=E.toArray:=by rw[<-ho]
 have aM:((O.filter (fun e => !B.contains e.born)).filter (fun e=>decide (e.born≥c)))=#[]:=by apply Array.ext';rw[hn]
 have gi:(getObj it).run P w=.ok (.mapIter (some r) c B c) w:=fB ae (by intros;simp);have gr:(getObj r).run P w=.ok (.map O c) w:=fB aI (by intros;simp)
 have ag:(Instr.next (.pointer (some ⟨it,0,none⟩)) false ty).run P w=((choose (.mapNext ((if E.toArray.isEmpty then #[none]else #[])++E.toArray.map some).size)).run P w).andThen fun n w' =>
  (match ((if E.toArray.isEmpty then #[none]else #[])++E.toArray.map some)[n]? with
    | some (some e)=>(do setObj it (.mapIter (some r) c (B.push e.born) c);pure (.tuple #[.bool true,e.key,e.val]):Sem Value)
    | some none=>pure (.tuple #[.bool false])
    | none=>stuck "Next: no such candidate").run P w':=by
  simp only[Instr.next,Sem.run_bind,gi,gr,Result.andThen_ok];rw[if_neg (by rw[Z];simp)];simp only[aN,aM,Array.append_empty];exact Sem.run_bind P w _ _
 cases I:left with
 | nil =>
   left;have av:E=[]:=Zo (by rw[V,I];rfl);subst av;refine⟨rfl,w,?_,by rw[<-I];exact m⟩;rw[ag];simp[Question.forced]
 | cons p0 aS =>
   right;rw[<-I];have M:0<E.length:=by rw[V,I];simp
   have ah:∃(i:Nat)(hi:i<E.length)(w1:World),w1.heap=w.heap/\w1.os=w.os/\w1.tape=w.tape/\w1.output=w.output /\
    (choose (.mapNext E.length)).run P w=.ok i w1:=by
    by_cases h1:E.length<=1
    ·exact⟨0,M,w,rfl,rfl,rfl,rfl,by simp[Question.forced,h1]⟩
    ·exact⟨(w.tape w.drawn (.mapNext E.length))%E.length,zbe _ M,w.drew,rfl,rfl,rfl,rfl,by simp[Question.forced,h1,Question.cut]⟩
   obtain⟨i,hi,w1,hh,aO,aR,aF,aG⟩:=ah;have ax:i<left.length:=by rw[<-V];exact hi
   have ai:E[i].key=.string left[i].1/\E[i].val=left[i].2:=by
    have:=congrArg (fun l=>l[i]?) hl;simp[hi,ax]at this;exact this
   have af:E[i]∈O.toList/\B.contains E[i].born=false:=by
    have:E[i]∈O.toList.filter (fun e => !B.contains e.born):=by rw[Y];exact Zq hi
    have:=ZB.1 this;exact⟨this.1,by simpa using this.2⟩
   have aH:w1.heap[it]?=some (.mapIter (some r) c B c):=by rw[hh];exact ae
   have aQ:it<w.heap.size:=(ZX.1 ae).1;refine⟨i,ax,{w1 with heap:=w1.heap.setIfInBounds it (.mapIter (some r) c (B.push E[i].born) c)},?_,?_⟩
   ·have aD:E≠[]:=by intro e;rw[e]at M;simp at M
    have he:E.toArray.isEmpty=false:=by simp[aD]
    rw[ag,he];simp only[YH,if_false,zaz,Array.size_map,Zl,aG,Result.andThen_ok];simp[hi,run_setObj_at aH,ai]
   ·have aP:E.Pairwise (fun a b=>a.born<b.born):=by rw[<-Y];exact hm.born.sublist ZT
    have h:=m.says;rw[bo]at h;obtain⟨a,b,aK,h2,⟨U,c',K,aU,_,ha,aT,_⟩,aL⟩:=h;refine⟨aO.trans m.os,aR.trans m.tape,aF.trans m.output,?_⟩;rw[bo]
    have e1:U=O/\c'=c:=by
     have:hp w r=some (.map U c'):=by rw[h2,ha];simp[Hp.join,Hp.one]
     have h0:hp w r=some (.map O c):=aI;rw[h0]at this;injection this with this;injection this with x y;exact⟨x.symm,y.symm⟩
    have e2:K=B:=by
     have:hp w it=some (.mapIter (some r) c' K c'):=by rw[h2,ha];simp[Hp.join,Hp.one,aa]
     have h0:hp w it=some (.mapIter (some r) c B c):=ae;rw[h0]at this;injection this with this;injection this with _ _ z _;exact z.symm
    obtain⟨rfl,rfl⟩:=e1;subst e2;refine⟨Hp.join (Hp.one r (.map U c')) (Hp.one it (.mapIter (some r) c' (K.push E[i].born) c')),b,?_,?_,⟨U,c',_,hm,aa,rfl,?_,?_⟩,aL⟩
    ·intro k
     rcases aK k with h | h
     ·left
      rw[ha]at h;simp only[Hp.join]at h ⊢;by_cases hk:k=it
      ·subst hk;simp[Hp.one,aa]at h
      ·by_cases ay:k=r
       ·subst ay;simp[Hp.one]at h
       ·simp[Hp.one,hk,ay]
     ·exact .inr h
    ·funext k
     show (w1.heap.setIfInBounds it _)[k]?=_;rw[hh];by_cases hk:k=it
     ·subst hk;simp[Hp.join,Hp.one,aa,aQ]
     ·rw[YX (Ne.symm hk)]
      have:hp w k=Hp.join a b k:=by rw[h2]
      have this:w.heap[k]?=Hp.join a b k:=this;rw[this,ha];simp only[Hp.join];simp[Hp.one,hk]
    ·rw[dq,<-hl,<-dq,<-ln E i hi aP]
     generalize E[i].born=bb;rw[<-Y,Y8]
     congr 1
     apply Y4;intro e _;simp[Array.mem_push,Bool.and_comm]
    ·rintro s v ak
     have hs:left[i].1=s/\left[i].2=v:=by injection ak with h;rw[h];exact⟨rfl,rfl⟩
     refine⟨E[i],E[i].born,by simp,?_,by rw[ai.1,hs.1],by rw[ai.2,hs.2]⟩
     have aj:∀x∈U.toList,x.born=E[i].born->x=E[i]:=by
      intro x hx hb;obtain⟨n1,az,rfl⟩:=ZI.1 hx;obtain⟨n2,aB,aJ⟩:=ZI.1 af.1;rw[<-aJ]at hb ⊢;have:=Z0.1 hm.born;rcases Xv n1 n2 with h | h | h
      ·have:=this n1 n2 az aB h;omega
      ·subst h;rfl
      ·have:=this n2 n1 aB az h;omega
     cases J:U.toList.find? (fun e=>e.born==E[i].born)with
     | none =>
       have:=Y9.1 J _ af.1;simp at this
     | some x =>
       have hx:=YA J;have hb:=X4 J;rw[aj x hx (by simpa using hb)]
theorem zF (m:Mod w w0 (kQ it r L left cur*F)):Mod w w0 (gv r L*F):=by
 have h:=m.says;rw[bo]at h;obtain⟨a,b,I,Y,⟨V,c,B,hm,U,K,_,_⟩,Z⟩:=h;refine⟨m.os,m.tape,m.output,?_⟩;rw[bo];obtain⟨f,t,O,J,hf,_⟩:=Z
 have E:b it=none:=by
  rcases I it with h | h
  ·rw[K]at h;simp[Hp.join,Hp.one]at h
  ·exact h
 have M:f it=none:=by
  rw[J]at E
  cases z:f it with
  | none=>rfl
  | some o=>simp[Hp.join,z]at E
 refine⟨Hp.one r (.map V c),Hp.join b (Hp.one it (.mapIter (some r) c B c)),fun k=>?_,?_,⟨V,c,hm,rfl⟩,⟨f,Hp.join t (Hp.one it (.mapIter (some r) c B c)),fun k=>?_,?_,hf,trivial⟩⟩
 ·by_cases z:k=r
  ·right
   subst z;rcases I k with h | h
   ·rw[K]at h;simp[Hp.join,Hp.one]at h
   ·simp only[Hp.join,h,Option.none_or,Hp.one];rw[if_neg (fun e=>U e.symm)]
  ·left;simp[Hp.one,z]
 ·rw[Y,K]
  funext k
  simp only[Hp.join,Hp.one];by_cases z:k=r
  ·subst z;simp
  ·by_cases y:k=it
   ·subst y;simp[z,E]
   ·simp[z,y]
 ·rcases O k with h | h
  ·exact .inl h
  ·by_cases y:k=it
   ·left;rw[y];exact M
   ·right;simp[Hp.join,h,Hp.one,y]
 ·rw[J];exact Hp.join_assoc _ _ _
theorem nS {B:Array Oper}{rest:List Oper}{o:Oper}{a:Act}{Q:Exit->Act->World->Prop}(E:o.guard=none)(x:Operand)(M:o.op=.next x false)(O:a.eval x=.pointer (some ⟨it,0,none⟩))
 (m:Mod w w0 (kQ it r L left cur*F))
 (U:left=[]->∀z,Mod z w0 (kQ it r L [] cur*F)->wpList P B Q rest (a.put o.dst (.tuple #[.bool false])) z)
 (V:∀(i:Nat)(K:i<left.length)(z:World),Mod z w0 (kQ it r L (left.eraseIdx i) (some left[i])*F)->wpList P B Q rest (a.put o.dst (.tuple #[.bool true,.string left[i].1,left[i].2])) z):wpList P B Q (o::rest) a w :=
 wpList_plain E fun _ J=>by
  unfold Oper.wp execOp;rcases p9 (P:=P) m o.type with⟨Y,z,y,I⟩ | ⟨i,K,z,y,I⟩
  ·simp only[M,Sem.run_bind,O,y,Result.andThen_ok,Sem.run_pure]
   exact J _ _ (U Y z I)
  ·simp only[M,Sem.run_bind,O,y,Result.andThen_ok,Sem.run_pure]
   exact J _ _ (V i K z I)
end
open Go Go.RowKit
theorem zv (w:World)(g:Nat)(o:Obj)(k:Nat)(h:k≠g):(w.putObj g o).heap[k]?=w.heap[k]?:=World.putObj_heap_other h
theorem Mod.putObj {w w0:World}{S F:ba}{g:Nat}{o:Obj}(o':Obj) [m:Mod w w0 S] [t:eM S (aE g) o F]:Mod (w.putObj g o') w0 (aE g o'*F) :=
 Mod.turn (w:=w) (g:=g) (u:=o) (pred:=aE g) rfl rfl rfl (fun k y=>zv _ _ _ _ y)
  (fun h z=>by rw[z];exact⟨fun k y=>by simp[Hp.one,y],by simp[Hp.one]⟩)
  (fun h z E=>by
    rw[z]at E;simp[Hp.one]at E;have B:=(ZX.1 E).1;show _=_
    funext k
    by_cases y:k=g
    ·subst y;simp[Hp.one,World.putObj_heap_same B]
    ·simp[Hp.one,y])
theorem g5 {w w0:World}{S F:ba}{g:Nat}{o:Obj}(m:Mod w w0 S)(t:eM S (aE g) o F):w.heap[g]?=some o:=by
 have y:jq S g o:=by rw[t.eq];infer_instance
 exact Mod.heap (m:=m)
def Qp {α:Type}(P:Program)(w0:World)(l:Nat)(y:α->Array Value)(J z:List α->ba)(N:List α->α->ba->Prop):Prop :=
 ∀(pre:List α)(x:α)(X:ba)(W:World),N pre x X->Mod W w0 (J pre*X)->YieldAt Fence.wide 5 P l (y x) W fun e B =>
  (e=.returned (.bool true)/\Mod B w0 (J (pre++[x])*X))\/(e=.returned (.bool false)/\Mod B w0 (z (pre++[x])*X))
def Du {α:Type}(P:Program)(w0:World)(gf:Nat)(lb:Array Value)(y:α->Array Value)(R:ba->Prop)(K:ba)(B:List α->ba)(I M:List α->Prop)(N:List α->α->ba->Prop):Prop :=
 ∀(l:Nat)(J z:List α->ba)(W:World),(∀pre,R (J pre))->Qp P w0 l y J z N->Mod W w0 (J []*K) ->
  Calls P gf (#[.func (.yield l) #[] #[]]++lb) W fun e E=>(∃v,e=.returned v) /\
   ((∃xs,I xs/\Mod E w0 (J xs*B xs))\/(∃pre,M pre/\Mod E w0 (z pre*B pre)))
abbrev Im {α:Type}(P:Program)(w0:World)(gf:Nat)(lb:Array Value)(y:α->Array Value)(R:ba->Prop)(K:ba)(z:List α->ba)(B E:List α->Prop)(N:List α->α->Prop):Prop:=Du P w0 gf lb y R K z B E fun pre x _=>N pre x
def F0 {α:Type}(w0:World)(I:List α->ba)(y:Code->List α->ba)(X:ba)(xs:List α):Exit->Act->World->Prop
 | .normal,_,W'=>Mod W' w0 (I xs*X)
 | .ret,_,W'=>Mod W' w0 (y .ret xs*X)
 | .exit id,_,W'=>Mod W' w0 (y (.exit id) xs*X)
 | .goto t,_,W'=>Mod W' w0 (y (.goto t) xs*X)
 | .panic _,_,_=>False
 | .outgrown,_,_=>False
theorem sg {α:Type}{P:Program}{n:Nat}{g:Operand}{ps:Array Tmp}{assign body:Code}{Q:Exit->Act->World->Prop}{a:Act}{w w0:World}
 {gf:Nat} {lb:Array Value} (hg:a.eval g=.func (.func gf) #[] lb) (eg:∀args w,(callFunc gf args).run P w=.ok (.enter gf args) w)
 {B:α->Array Value} {R:ba->Prop} {K:ba} {K':List α->ba} {Sd Sp:List α->Prop} {N:List α->α->ba->Prop} (O:∀pre x X Y,N pre x X->N pre x (Y*X)) (ah:Du P w0 gf lb B R K K' Sd Sp N) (au:∀x,(B x).size=ps.size)
 (I:List α->ba) (Ix:Code->List α->ba) (m:Mod w w0 (I []*K)) (hR:∀pre Y,R (I pre*Y)) (a₁:α->Act)
 (M:∀(l:Nat)(x:α)(W:World)(K:Act->World->Prop),K (a₁ x) W ->
   assign.wpIn (Fence.wide.inRound l) 5 P (Exit.then K (fun _ _ _=>False)) {tmps:=(ps.zip (B x)).foldl (fun t (p,v)=>t.setIfInBounds p v) a.tmps,defers:=[]} W)
 (aa:∀(l:Nat)(pre:List α)(x:α)(X:ba)(W:World),N pre x X->Mod W w0 (I pre*X)->body.wpIn (Fence.wide.inRound l) 5 P (F0 w0 I Ix X (pre++[x])) (a₁ x) W)
 (ae:∀(D:Nat)(xs:List α)(W:World),Sd xs->Mod W w0 (aE D (.deferred (some []))*(I xs*K' xs))->Q .normal {a with defers:={target:=.collected D,args:=#[]}::a.defers} W)
 (af:∀(D:Nat)(c:Code)(pre:List α)(W:World),Sp pre->Mod W w0 (aE D (.deferred (some []))*(Ix c pre*K' pre))->c.wpIn Fence.wide n P Q {a with defers:={target:=.collected D,args:=#[]}::a.defers} W) :
 (Code.rangeFunc g ps assign body).wpIn Fence.wide n P Q a w:=by
 refine wpIn_rangeFunc ?_;intro fn aj;obtain⟨rec,z⟩:∃rec:LoopState->Option Code->Loop,rec=fun st pe=>{state:=st,pending:=pe,fn,tmps:=a.tmps,params:=ps,assign,body,defers:=w.heap.size}:=⟨_,rfl⟩;obtain⟨Z,ag⟩:∃Z,(w.alloc (.deferred (some []))).alloc (.loop (rec .ready none))=Z:=⟨_,rfl⟩
 have m1:Mod Z w0 (aE (w.heap.size+1) (.loop (rec .ready none))*(aE w.heap.size (.deferred (some []))*(I []*K))):=by
  rw[<-ag];exact Mod.alloc (m:=Mod.alloc (m:=m) (hn:=⟨rfl⟩) _) (hn:=⟨by simp⟩) _
 refine⟨w.heap.size+1,[{target:=.collected w.heap.size,args:=#[]}],Z,{target:=.fn (.func gf) lb,args:=#[.func (.yield (w.heap.size+1)) #[] #[]]},Z,gf,
  #[.func (.yield (w.heap.size+1)) #[] #[]]++lb,Z,?_,?_,fun _ _=>trivial,?_,fun h=>by simp[Fence.wide]at h,?_⟩
 ·rw[<-ag,z];exact run_enterLoop_outer _ _ _ _ _
 ·simp only[resolve,hg]
  simp[go_sem]
 ·simp[invoke,go_sem,eg]
 ·refine callsIn_wide.2 ((ah (w.heap.size+1)
   (fun pre=>aE (w.heap.size+1) (.loop (rec .ready none))*(aE w.heap.size (.deferred (some []))*I pre))
   (fun pre=>ex fun c=>aE (w.heap.size+1) (.loop (rec .done (some c)))*(aE w.heap.size (.deferred (some []))*Ix c pre)) Z (fun pre=>?_) ?_ ?_).mono ?_)
  ·have:=hR pre (aE (w.heap.size+1) (.loop (rec .ready none))*aE w.heap.size (.deferred (some [])))
   rw[show aE (w.heap.size+1) (.loop (rec .ready none))*(aE w.heap.size (.deferred (some []))*I pre)=I pre*(aE (w.heap.size+1) (.loop (rec .ready none))*aE w.heap.size (.deferred (some [])))from by ac_rfl];exact this
  ·-- one round
   intro pre x X W hN mW;have mW:Mod W w0 (aE (w.heap.size+1) (.loop (rec .ready none))*((aE w.heap.size (.deferred (some []))*I pre)*X)):=by rw[<-bo];exact mW
   have hl:W.heap[w.heap.size+1]?=some (.loop (rec .ready none)):=g5 mW zbk;have hy:=run_yield (P:=P) (args:=B x) hl (by rw[z];exact au x);rw[z]at hy;refine⟨fn,_,assign,body,hy,roundIn_of_wpIn aj (M _ x W _ ⟨_,run_beginRound hl (by rw[z]),?_⟩)⟩;have E:=Mod.putObj (g:=w.heap.size+1) (.loop {rec .ready none with state:=.busy}) (m:=mW);refine wpIn_mono (aa _ pre x (aE (w.heap.size+1) (.loop {rec .ready none with state:=.busy})*(aE w.heap.size (.deferred (some []))*X)) _ (O _ _ _ _ (O _ _ _ _ hN)) (Mod.to (m:=E) (by rw[b9];ac_rfl))) ?_
   have fin:∀(y:Option Code)(G:ba)(J:World),Mod J w0 (G*(aE (w.heap.size+1) (.loop {rec .ready none with state:=.busy})*(aE w.heap.size (.deferred (some []))*X))) ->
    (Instr.endRound (w.heap.size+1) y).run P J=.ok (.bool y.isNone) (J.putObj (w.heap.size+1) (.loop (rec (if y.isNone then .ready else .done) y))) /\
    Mod (J.putObj (w.heap.size+1) (.loop (rec (if y.isNone then .ready else .done) y))) w0 ((aE (w.heap.size+1) (.loop (rec (if y.isNone then .ready else .done) y))*(aE w.heap.size (.deferred (some []))*G))*X):=fun y G J V=>by
    have ak:J.heap[w.heap.size+1]?=some (.loop {rec .ready none with state:=.busy}):=g5 V zbk;have U:=Mod.putObj (g:=w.heap.size+1) (.loop (rec (if y.isNone then .ready else .done) y)) (m:=V);have:=run_endRound (P:=P) y ak;refine⟨by rw[z]at this ⊢;exact this,Mod.to (m:=U) ?_⟩;rw[b9];ac_rfl
   rintro e a3 J hp
   cases e with
   | normal =>
     obtain⟨hr,U⟩:=fin none _ J hp;exact⟨_,_,hr,.inl ⟨rfl,U⟩⟩
   | ret =>
     obtain⟨hr,U⟩:=fin (some .ret) _ J hp;exact⟨_,_,hr,.inr ⟨rfl,Mod.shut .ret (m:=U)⟩⟩
   | exit id =>
     obtain⟨hr,U⟩:=fin (some (.exit id)) _ J hp;exact⟨_,_,hr,.inr ⟨rfl,Mod.shut (.exit id) (m:=U)⟩⟩
   | goto t =>
     obtain⟨hr,U⟩:=fin (some (.goto t)) _ J hp;exact⟨_,_,hr,.inr ⟨rfl,Mod.shut (.goto t) (m:=U)⟩⟩
   | panic ch=>exact hp.elim
   | outgrown=>exact hp.elim
  ·exact Mod.to (m:=m1) (by ac_rfl)
  ·-- behind the iterator
   rintro e W2 ⟨⟨v,rfl⟩,(⟨xs,hS,E⟩ | ⟨pre,ai,E⟩)⟩
   ·have E:Mod W2 w0 (aE (w.heap.size+1) (.loop (rec .ready none))*((aE w.heap.size (.deferred (some []))*I xs)*K' xs)):=by rw[<-bo];exact E
    have hl:=g5 (g:=w.heap.size+1) E zbk;have V:=Mod.putObj (g:=w.heap.size+1) (.loop {rec .ready none with state:=.exhausted}) (m:=E);refine⟨none,W2.putObj (w.heap.size+1) (.loop {rec .ready none with state:=.exhausted}),by have:=run_endLoop (P:=P) hl (by rw[z];simp);subst z;exact this,?_⟩;rw[b9,bo]at V;exact ae _ xs _ hS (Mod.drop (m:=V))
   ·obtain⟨c,E⟩:=Mod.open (m:=E)
    have E:Mod W2 w0 (aE (w.heap.size+1) (.loop (rec .done (some c)))*((aE w.heap.size (.deferred (some []))*Ix c pre)*K' pre)):=by rw[<-bo];exact E
    have hl:=g5 (g:=w.heap.size+1) E zbk;have V:=Mod.putObj (g:=w.heap.size+1) (.loop {rec .done (some c)with state:=.exhausted}) (m:=E);refine⟨some c,W2.putObj (w.heap.size+1) (.loop {rec .done (some c)with state:=.exhausted}),by have:=run_endLoop (P:=P) hl (by rw[z];simp);subst z;exact this,?_⟩;rw[b9,bo]at V;exact af _ c pre _ ai (Mod.drop (m:=V))
theorem lX {α:Type}{P:Program}{n:Nat}{g:Operand}{ps:Array Tmp}{y E:Code}{Q:Exit->Act->World->Prop}{a:Act}{w w0:World}
 {gf:Nat} {lb:Array Value} (hg:a.eval g=.func (.func gf) #[] lb) (eg:∀args w,(callFunc gf args).run P w=.ok (.enter gf args) w)
 {z:α->Array Value} {R:ba->Prop} {K:ba} {Z:List α->ba} {Sd Sp:List α->Prop} {N:List α->α->Prop} (U:Im P w0 gf lb z R K Z Sd Sp N) (aa:∀x,(z x).size=ps.size)
 (I:List α->ba) (V:Code->List α->ba) (m:Mod w w0 (I []*K)) (hR:∀pre Y,R (I pre*Y)) (a₁:α->Act)
 (B:∀(l:Nat)(x:α)(W:World)(K:Act->World->Prop),K (a₁ x) W ->
   y.wpIn (Fence.wide.inRound l) 5 P (Exit.then K (fun _ _ _=>False)) {tmps:=(ps.zip (z x)).foldl (fun t (p,v)=>t.setIfInBounds p v) a.tmps,defers:=[]} W)
 (J:∀(l:Nat)(pre:List α)(x:α)(X:ba)(W:World),N pre x->Mod W w0 (I pre*X)->E.wpIn (Fence.wide.inRound l) 5 P (F0 w0 I V X (pre++[x])) (a₁ x) W)
 (M:∀(D:Nat)(xs:List α)(W:World),Sd xs->Mod W w0 (aE D (.deferred (some []))*(I xs*Z xs))->Q .normal {a with defers:={target:=.collected D,args:=#[]}::a.defers} W)
 (O:∀(D:Nat)(c:Code)(pre:List α)(W:World),Sp pre->Mod W w0 (aE D (.deferred (some []))*(V c pre*Z pre))->c.wpIn Fence.wide n P Q {a with defers:={target:=.collected D,args:=#[]}::a.defers} W) :
 (Code.rangeFunc g ps y E).wpIn Fence.wide n P Q a w :=
 sg (N:=fun pre x _=>N pre x) hg eg (fun _ _ _ _ h=>h) U aa I V m hR a₁ B J M O
open Go
def My (P:Program)(e:TypeId)(size bytes:Nat):Bool:=match P.info? e with
 | some i=>(match i.zero with | some z=>decide (z.cells.size=size) | none=>false)&&decide (i.size=size)&&decide (i.bytes=bytes)&&decide (0<size)
 | none=>false
class yH (P:Program)(t:TypeId)(e size bytes:outParam Nat):Prop where
 ht:P.underlying t=some (.slice e)
 ok:My P e size bytes=true
theorem yH.get {P:Program}{t e size bytes:Nat}(T:yH P t e size bytes):∃i z,P.info? e=some i/\i.zero=some z/\i.size=size/\i.bytes=bytes/\z.cells.size=size/\0<size:=by
 have h:=T.ok;unfold My at h
 cases B:P.info? e with
 | none=>rw[B]at h;cases h
 | some i =>
   rw[B]at h
   cases y:i.zero with
   | none=>simp[y]at h
   | some z=>simp[y]at h;exact⟨i,z,rfl,y,h.1.1.2,h.1.2,h.1.1.1,h.2⟩
theorem i9 {P:Program}{w w0:World}{F:ba}{K:Array Oper}{rest:List Oper}{o:Oper}{a:Act}{Q:Exit->Act->World->Prop}{s x:Operand}{t e size bytes:Nat} [T:yH P t e size bytes](Z:o.guard=none)
 (ho:o.op=.call {callee:=.builtin .append,args:=#[s,x],argTypes:=#[t,t]}) {v:Value} {n:Nat} {xs:List Value} (m:Mod w w0 (ar e size v n xs*F)) (hs:a.eval s=v)
 {A:Addr} {k c:Nat} {news:List Value} (hx:a.eval x=.slice (some A) k c) (r:bk F (some A) (k*size) news) (hk:0<k) (E:∀u∈news,u.oneCell'=true) (U:n+k<=maxLen) (y:(n+k)*bytes<=140737488355328)
 (h:∀A' c' O,Mod O w0 (ar e size (.slice A' (n+k) c') (n+k) (xs++news)*F)->wpList P K Q rest (a.put o.dst (.slice A' (n+k) c')) O):wpList P K Q (o::rest) a w :=
 wpList_plain Z fun _ hK=>by
  obtain⟨i,z,hi,hz,B,Y,ag,h0⟩:=T.get;have rS:bk (ar e size v n xs*F) (some A) (k*size) news:=zbk;have I:=fp m rS;have aa:0<k*size:=zat hk h0;obtain⟨ad,V,ae,hc⟩:=cP m rS aa;injection V with V;subst V
  obtain⟨v',O,J,M,h3,h4,h5⟩:=run_append_own_at (P:=P) w 0 t o.type e i z size bytes T.ht hi hz B Y ag h0 v n xs (fW m) A k c news I
   (fun j u hu=>by rw[jl A j ae];exact hc j u hu) E U y (Zv _)
  have af:∃A' c',v'=.slice A' (n+k) c':=by
   rcases M.2 with⟨E,M⟩ | ⟨g,cap,cur,E,_⟩
   ·exact⟨none,0,by rw[E,M]⟩
   ·exact⟨_,_,E⟩
  obtain⟨A',c',rfl⟩:=af;unfold Oper.wp execOp;simp only[ho,resolve,invoke,builtin,Sem.run_bind,Sem.run_pure,Result.andThen_ok,Y0,Zy,Ye,hs,hx,J];exact hK _ _ (h A' c' O (m.rK M h3 h5))
theorem qM {P:Program}{w:World}{B:Array Oper}{rest:List Oper}{o:Oper}{a:Act}{Q:Exit->Act->World->Prop}{t e size bytes:Nat} [T:yH P t e size bytes](I:o.guard=none){x:Operand}(O:o.op=.buildSlice t 1 #[(0,x)])
 {cs:Array Value} (V:a.eval x=.agg cs) (U:cs.size=size) (E:size<=1000) (h:wpList P B Q rest (a.put o.dst (.slice (some ⟨w.heap.size,0,none⟩) 1 1)) (w.alloc (.cells cs e))):wpList P B Q (o::rest) a w:=by
 obtain⟨i,z,M,Y,y,K,Z,J⟩:=T.get;refine wpList_buildSlice I t e 1 #[(0,x)] O cs i z T.ht M Y (by rw[y];omega) (by rw[y];omega) ?_ h;have:=Go.Great.fill_whole J [.agg cs] ((Array.range (1*i.size)).map (z.cells[·%z.cells.size]!)) (by simp[Value.cells,U]) (by simp[y]);simp only[List.zipIdx_cons,List.zipIdx_nil,Zy,Ye]at this;rw[y]at this ⊢;simp only[Y0,Zy,Ye,V];rw[this];simp[Value.cells]
theorem mz {P:Program}{w w0:World}{F:ba}{o:Oper}{a:Act}{K:Act->World->Prop}{Q:Exit->Act->World->Prop}{s x:Operand}{t e size bytes:Nat} [T:yH P t e size bytes]
 (ho:o.op=.call {callee:=.builtin .append,args:=#[s,x],argTypes:=#[t,t]}) {v:Value} {n:Nat} {xs:List Value} (m:Mod w w0 (ar e size v n xs*F)) (hs:a.eval s=v)
 {A:Addr} {k c:Nat} {news:List Value} (hx:a.eval x=.slice (some A) k c) (r:bk F (some A) (k*size) news) (hk:0<k) (E:∀u∈news,u.oneCell'=true) (U:n+k<=maxLen) (y:(n+k)*bytes<=140737488355328)
 (h:∀A' c' O,Mod O w0 (ar e size (.slice A' (n+k) c') (n+k) (xs++news)*F)->K (a.put o.dst (.slice A' (n+k) c')) O):o.wp P a w K Q:=by
 obtain⟨i,z,hi,hz,B,Y,af,h0⟩:=T.get;have rS:bk (ar e size v n xs*F) (some A) (k*size) news:=zbk;have I:=fp m rS;have Z:0<k*size:=zat hk h0;obtain⟨ad,V,aa,hc⟩:=cP m rS Z;injection V with V;subst V
 obtain⟨v',O,J,M,h3,h4,h5⟩:=run_append_own_at (P:=P) w 0 t o.type e i z size bytes T.ht hi hz B Y af h0 v n xs (fW m) A k c news I
  (fun j u hu=>by rw[jl A j aa];exact hc j u hu) E U y (Zv _)
 have ae:∃A' c',v'=.slice A' (n+k) c':=by
  rcases M.2 with⟨E,M⟩ | ⟨g,cap,cur,E,_⟩
  ·exact⟨none,0,by rw[E,M]⟩
  ·exact⟨_,_,E⟩
 obtain⟨A',c',rfl⟩:=ae;unfold Oper.wp execOp;simp only[ho,resolve,invoke,builtin,Sem.run_bind,Sem.run_pure,Result.andThen_ok,Y0,Zy,Ye,hs,hx,J];exact h A' c' O (m.rK M h3 h5)
theorem ng {P:Program}{w:World}{o:Oper}{a:Act}{K:Act->World->Prop}{Q:Exit->Act->World->Prop}{t e size bytes:Nat} [T:yH P t e size bytes]{x:Operand}(M:o.op=.buildSlice t 1 #[(0,x)])
 {cs:Array Value} (U:a.eval x=.agg cs) (O:cs.size=size) (B:size<=1000) (h:K (a.put o.dst (.slice (some ⟨w.heap.size,0,none⟩) 1 1)) (w.alloc (.cells cs e))):o.wp P a w K Q:=by
 obtain⟨i,z,J,V,y,I,Y,E⟩:=T.get;refine wp_buildSlice t e 1 #[(0,x)] M cs i z T.ht J V (by rw[y];omega) (by rw[y];omega) ?_ h;have:=Go.Great.fill_whole E [.agg cs] ((Array.range (1*i.size)).map (z.cells[·%z.cells.size]!)) (by simp[Value.cells,O]) (by simp[y]);simp only[List.zipIdx_cons,List.zipIdx_nil,Zy,Ye]at this;rw[y]at this ⊢;simp only[Y0,Zy,Ye,U];rw[this];simp[Value.cells]
theorem fh {e size n c:Nat}{A:Option Addr}{xs:List Value}(_h0:0<size):bk (ar e size (.slice A n c) n xs) A (n*size) xs :=
 ⟨fun h z=>z.1,fun h z hn=>by
   rcases z.2 with⟨_,E,_⟩ | ⟨g,cap,cur,B,J,K,M,I,rfl⟩
   ·subst E;omega
   ·injection B with B
    refine⟨_,B,rfl,fun j u y=>⟨cur,e,(0,0),by simp[Hp.one],?_⟩⟩;rw[<-I]at y;rw[Xp]at y
    split at y
    ·simpa using y
    ·cases y⟩
class pG (S A:ba)(R:outParam ba):Prop where
 eq:S=A*R
instance (priority:=2000) pG.here (A B:ba):pG (A*B) A B:=⟨rfl⟩
instance (priority:=1900) pG.last (A B:ba):pG (A*B) B A:=⟨ii A B⟩
instance (priority:=1000) pG.right (A B C R:ba) [t:pG B C R]:pG (A*B) C (A*R):=⟨by rw[t.eq,cC]⟩
instance (priority:=900) pG.left (A B C R:ba) [t:pG A C R]:pG (A*B) C (R*B):=⟨by rw[t.eq,bo]⟩
instance (priority:=3000) pG.row (A B y z S:ba) [E:pG S A y] [I:pG y B z]:pG S (A*B) z:=⟨by rw[E.eq,I.eq,bo]⟩
theorem Mod.pull {w w0:World}{S:ba}(A:ba){R:ba} [m:Mod w w0 S] [t:pG S A R]:Mod w w0 (A*R):=t.eq▸m
theorem Mod.z9 {w w0:World}{S:ba}(A B:ba){y z:ba} [m:Mod w w0 S] [E:pG S A y] [I:pG y B z]:Mod w w0 (A*(B*z)):=by
 rw[<-I.eq,<-E.eq];exact m
theorem Mod.NJ {w w0:World}{S:ba}(A B C:ba){y z E:ba} [m:Mod w w0 S] [I:pG S A y] [J:pG y B z] [K:pG z C E]:Mod w w0 (A*(B*(C*E))):=by
 rw[<-K.eq,<-J.eq,<-I.eq];exact m
theorem mf {P:Program}{y:Array Oper}{l:List Oper}{a:Act}{w w0:World}{S:ba}{Q:Exit->Act->World->Prop} [m:Mod w w0 S](h:Mod w w0 S->wpList P y Q l a w):wpList P y Q l a w:=h m
instance lY.drewN (w:World)(n k:Nat) [h:lY w n]:lY (w.drewN k) n:=⟨h.eq⟩
theorem ey {w w0:World}{F:ba}{e size:Nat}(m:Mod w w0 F):Mod w w0 (ar e size (.slice none 0 0) 0 []*F):=by
 refine Mod.conv (S:=sC*F) (m:=by rw[b9];exact m) fun _ h=>lF (A:=sC) (fun y z=>?_) h;have z:y=Hp.none:=z;subst z;exact gM _ _
theorem i7 {w w0:World}{F:ba}{e size n c:Nat}{A:Option Addr}{xs:List Value}(m:Mod w w0 (ar e size (.slice A n c) n xs*F)):n<=c:=by
 rcases (fW m).2 with⟨h,z⟩ | ⟨g,cap,cur,h,_,_,y,_⟩
 ·omega
 ·injection h with _ _ B;omega
class bw (S:ba)(g o:Nat)(v:outParam Value):Prop where
 cell:∀h,S.says h->∃c e f,h g=some (.cells c e f)/\c[o]?=some v
instance bw.left (A B:ba)(g o:Nat)(v:Value) [I:bw A g o v]:bw (A*B) g o v :=
 ⟨by rintro h ⟨a,b,_,rfl,y,_⟩;obtain⟨c,e,f,z,E⟩:=I.cell a y;exact⟨c,e,f,by simp[Hp.join,z],E⟩⟩
instance bw.right (A B:ba)(g o:Nat)(v:Value) [y:bw B g o v]:bw (A*B) g o v:=by
 rw[ii];exact bw.left B A g o v
theorem bj {w w0:World}{S:ba}{g o:Nat}{v:Value} [m:Mod w w0 S] [c:bw S g o v]:w.cell? ⟨g,o,none⟩=some v:=by
 obtain⟨a,b,_,E,B,_⟩:=m.says;obtain⟨c,e,f,y,z⟩:=c.cell a B;have I:w.heap[g]?=some (.cells c e f):=by show hp w g=_;rw[E];simp[Hp.join,y]
 unfold World.cell?;simp only[I];exact z
theorem eL {S:ba}{z o n:Nat}{xs:List Value}(r:bk S (some ⟨z,o,none⟩) n xs)(hn:0<n)(j:Nat){u:Value}(I:xs[j]?=some u):bw S z (o+j) u :=
 ⟨fun h E=>by
   obtain⟨ad,y,_,B⟩:=r.cell h E hn;injection y with y;subst y
   exact B j u I⟩
end Go.Sl
