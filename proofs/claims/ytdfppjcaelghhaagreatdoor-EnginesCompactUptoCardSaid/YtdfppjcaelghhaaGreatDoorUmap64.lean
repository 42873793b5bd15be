/- Plain lemmas and contracts; the conditions are in each. -/
import Derived.Test.YtdfppjcaelghhaaGreatDoorBaseG
namespace Go.Sl.U64
open Go Go.Sl
abbrev eR:=List (Nat×Value)
structure fb (es:Array MapEntry)(clock:Nat)(L:eR):Prop where
 keys:es.toList.map (fun e=>(e.key,e.val))=L.map (fun p=>(Value.int .u64 (p.1:Int),p.2))
 born:es.toList.Pairwise (fun a b=>a.born<b.born)
 lt:∀e∈es.toList,e.born<clock
 nodup:(L.map (·.1)).Nodup
def gv (r:Nat)(L:eR):ba:=⟨fun h=>∃z y,fb z y L/\h=Hp.one r (.map z y)⟩
def br {α:Type}(L:List (Nat×α))(s:Nat):Option α:=(L.find? (fun p=>decide (p.1=s))).map (·.2)
def cV {α:Type}(L:List (Nat×α))(s:Nat)(v:α):List (Nat×α) :=
 if L.any (fun p=>decide (p.1=s))then L.map (fun p=>if p.1=s then (p.1,v)else p)else L++[(s,v)]
def cG {α:Type}(L:List (Nat×α))(s:Nat):List (Nat×α):=L.filter (fun p => !decide (p.1=s))
class dc (S:ba)(r:Nat)(L:outParam eR):Prop where
 has:∀h,S.says h->∃es clock,fb es clock L/\h r=some (.map es clock)
instance dc.smap (r:Nat)(L:eR):dc (gv r L) r L:=⟨fun h ⟨y,c,B,z⟩=>⟨y,c,B,by rw[z];simp[Hp.one]⟩⟩
instance dc.left (A B:ba)(r:Nat)(L:eR) [E:dc A r L]:dc (A*B) r L :=
 ⟨by
   rintro h ⟨a,b,_,rfl,z,_⟩;obtain⟨y,c,J,I⟩:=E.has a z
   exact⟨y,c,J,by simp[Hp.join,I]⟩⟩
instance dc.right (A B:ba)(r:Nat)(L:eR) [K:dc B r L]:dc (A*B) r L :=
 ⟨by
   rintro h ⟨a,b,I,rfl,O,J⟩;obtain⟨E,c,M,z⟩:=K.has b J;refine⟨E,c,M,?_⟩;rcases I r with y | y
   ·simp[Hp.join,y,z]
   ·rw[y]at z;cases z⟩
instance eM.smap (r:Nat)(L:eR):eM (gv r L) (gv r) L sC:=⟨(eI _).symm⟩
theorem fb.made:fb #[] 0 []:=⟨rfl,by simp,by simp,by simp⟩
theorem pz (r:Nat):(gv r []).says (Hp.one r (.map #[] 0)):=⟨#[],0,fb.made,rfl⟩
theorem Dc {w w0:World}{S:ba}{n:Nat} [m:Mod w w0 (Go.Sl.gv n []*S)]:Mod w w0 (gv n []*S) :=
 Mod.conv (S:=Go.Sl.gv n []*S) fun x I=>lF (A:=Go.Sl.gv n []) (A':=gv n []) (fun y ⟨z,c,E,B⟩=>by
  have:z=#[]:=by have:=congrArg List.length E.keys;simpa using this
  subst this
  exact⟨#[],c,⟨rfl,by simp,by simp,by simp⟩,B⟩) I
class od (P:Program)(t:TypeId):Prop where
 map:P.underlying t=some (.map (P.mapKey t) (P.mapElem t))
 key:P.underlying (P.mapKey t)=some (.int .u64)
 zero:∀w,(zeroValue (P.mapElem t)).run P w=.ok (P.zeroOf (P.mapElem t)) w
section
variable {P:Program}{w w0:World}{S:ba}{t:TypeId}{r:Nat}{L:eR}
theorem mapBlock (w:World) [m:Mod w w0 S] [h:dc S r L]:∃z y,fb z y L/\w.heap[r]?=some (.map z y):=by
 obtain⟨a,b,_,B,E,_⟩:=m.says;obtain⟨z,c,J,I⟩:=h.has a E;refine⟨z,c,J,?_⟩;have:hp w r=some (.map z c):=by rw[B];simp[Hp.join,I]
 exact this
theorem b4 {o:Obj}(h:w.heap[r]?=some o)(y:∀c e f,o ≠ .cells c e f):(getObj r).run P w=.ok o w:=by
 cases o <;> simp[getObj,Sem.run,h] <;> exact absurd rfl (y _ _ _)
theorem run_setObj_at {o o':Obj}(h:w.heap[r]?=some o)(y:∀c e f,o ≠ .cells c e f):(setObj r o').run P w=.ok () {w with heap:=w.heap.setIfInBounds r o' }:=by
 cases o <;> simp[setObj,Sem.run,h] <;> exact absurd rfl (y _ _ _)
theorem dd (s:Nat):∀(y:List MapEntry)(L:eR)(i:Nat),y.map (fun e=>(e.key,e.val))=L.map (fun p=>(Value.int .u64 (p.1:Int),p.2)) ->
 Instr.findNow (.int .u64) (.int .u64 (s:Int)) y i=some ((L.findIdx? (fun p=>decide (p.1=s))).bind fun j=>(L[j]?).map fun p=>(i+j,p.2))
 | [],L,i,h=>by
   have:L=[]:=by cases L;rfl;simp at h
   subst this;simp[Instr.findNow]
 | e::y,[],i,h=>by simp at h
 | e::y,p::L,i,h=>by
   simp only[Zy,zbf,Prod.mk.injEq]at h;obtain⟨⟨E,J⟩,I⟩:=h;have K:=dd s y L (i+1) I;simp only[Instr.findNow,E,Instr.sameNow,Xo];by_cases z:p.1=s
   ·have B:((s:Int)==(p.1:Int))=true:=beq_iff_eq.2 (by rw[z])
    simp only[B];simp[z,J]
   ·have B:((s:Int)==(p.1:Int))=false:=by
     cases h:((s:Int)==(p.1:Int))with
     | false=>rfl
     | true=>exact absurd (Int.ofNat.inj (beq_iff_eq.1 h)).symm z
    simp only[B,z,decide_false];rw[K]
    cases M:L.findIdx? (fun p=>decide (p.1=s))with
    | none=>simp
    | some j=>simp[Nat.add_assoc,XR 1 j]
theorem j2 (L:eR)(s:Nat):br L s=(L.findIdx? (fun p=>decide (p.1=s))).bind fun j=>(L[j]?).map (·.2):=by
 unfold br
 induction L with
 | nil=>simp
 | cons p L z =>
   simp only[List.find?_cons,Xo];by_cases y:p.1=s
   ·simp[y]
   ·simp only[y,z,decide_false]
    cases B:L.findIdx? (fun p=>decide (p.1=s)) <;> simp
theorem j4 {s:Nat} [T:od P t]{y:Array MapEntry}{c:Nat}(z:fb y c L)(w:World) :
 (Instr.findKey (P.mapKey t) (.int .u64 (s:Int)) y.toList).run P w=.ok ((L.findIdx? (fun p=>decide (p.1=s))).bind fun j=>(L[j]?).map fun p=>(j,p.2)) w:=by
 have:=dd s y.toList L 0 z.keys;simp only[ZM]at this;exact MapKept.run_findKey T.key this
theorem eK {s:Nat} [T:od P t](b:Bool)(w:World):(Instr.checkKey b 10000 (P.mapKey t) (.int .u64 (s:Int))).run P w=.ok () w :=
 MapKept.run_checkKey (d:=.int .u64) T.key (by trivial) b 9999
@[go_sem] theorem s9 (s:Nat) [Mod w w0 S] [dc S r L] [T:od P t] :
 (Instr.lookup t (.map (some r)) (.int .u64 (s:Int)) true).run P w=.ok (.tuple #[(br L s).getD (P.zeroOf (P.mapElem t)),.bool (br L s).isSome]) w:=by
 obtain⟨M,c,K,I⟩:=mapBlock (w0:=w0) (S:=S) (r:=r) (L:=L) w;have y:=j4 (P:=P) (t:=t) (s:=s) K w;have z:=j2 L s
 cases B:L.findIdx? (fun p=>decide (p.1=s))with
 | none=>rw[B]at y z;simp[Instr.lookup,run_underlying T.map,b4 I,eK,y,T.zero,z]
 | some j =>
   rw[B]at y z;obtain⟨J,_⟩:=Zk.1 B;have E:L[j]?=some L[j]:=Zg J;simp[E]at y z;simp[Instr.lookup,run_underlying T.map,b4 I,eK,y,z]
@[go_sem] theorem vV (s:Nat) [Mod w w0 S] [dc S r L] [T:od P t] :
 (Instr.lookup t (.map (some r)) (.int .u64 (s:Int)) false).run P w=.ok ((br L s).getD (P.zeroOf (P.mapElem t))) w:=by
 obtain⟨M,c,K,I⟩:=mapBlock (w0:=w0) (S:=S) (r:=r) (L:=L) w;have y:=j4 (P:=P) (t:=t) (s:=s) K w;have z:=j2 L s
 cases B:L.findIdx? (fun p=>decide (p.1=s))with
 | none=>rw[B]at y z;simp[Instr.lookup,run_underlying T.map,b4 I,eK,y,T.zero,z]
 | some j =>
   rw[B]at y z;obtain⟨J,_⟩:=Zk.1 B;have E:L[j]?=some L[j]:=Zg J;simp[E]at y z;simp[Instr.lookup,run_underlying T.map,b4 I,eK,y,z]
@[go_sem] theorem vU (ty:TypeId) [Mod w w0 S] [dc S r L] [T:od P t]:(Builtin.len_ #[t] ty #[.map (some r)]).run P w=.ok (goInt L.length) w:=by
 obtain⟨y,c,B,E⟩:=mapBlock (w0:=w0) (S:=S) (r:=r) (L:=L) w;have z:y.size=L.length:=by have:=congrArg List.length B.keys;simpa using this
 simp[Builtin.len_,run_underlying T.map,b4 E,z]
def _root_.Go.World.mQ (w:World)(r:Nat)(s:Nat)(v:Value):World :=
 match w.heap[r]? with
 | some (.map es clock) =>
   {w with heap:=w.heap.setIfInBounds r (match Instr.findNow (.int .u64) (.int .u64 (s:Int)) es.toList 0 with
    | some (some (i,_))=>.map (es.modify i fun e=>{e with key:=.int .u64 (s:Int),val:=v}) clock
    | _=>.map (es.push {key:=.int .u64 (s:Int),val:=v,born:=clock}) (clock+1))}
 | _=>w
def _root_.Go.World.oP (w:World)(r:Nat)(s:Nat):World :=
 match w.heap[r]? with
 | some (.map es clock) =>
   {w with heap:=w.heap.setIfInBounds r (match Instr.findNow (.int .u64) (.int .u64 (s:Int)) es.toList 0 with
    | some (some (i,_))=>.map (es.eraseIdxIfInBounds i) clock
    | _=>.map es clock)}
 | _=>w
theorem sH {y:Array MapEntry}{c:Nat}(E:fb y c L){j:Nat}(z:j<L.length):∃e,y[j]?=some e/\e.key=.int .u64 (L[j].1:Int)/\e.val=L[j].2:=by
 have B:y.size=L.length:=by have:=congrArg List.length E.keys;simpa using this
 refine⟨y[j],by simp[B,z],?_⟩;have:=congrArg (fun l=>l[j]?) E.keys;simp[B,z]at this;exact this
theorem kU (s:Nat)(v:Value) [Mod w w0 S] [dc S r L] [T:od P t] :
 (Instr.mapUpdate t (.map (some r)) (.int .u64 (s:Int)) v).run P w=.ok () (w.mQ r s v):=by
 obtain⟨V,c,M,z⟩:=mapBlock (w0:=w0) (S:=S) (r:=r) (L:=L) w;have B:=j4 (P:=P) (t:=t) (s:=s) M w;have y:=dd s V.toList L 0 M.keys;simp only[ZM]at y
 cases I:L.findIdx? (fun p=>decide (p.1=s))with
 | none =>
   rw[I]at B y;simp[Instr.mapUpdate,run_underlying T.map,b4 z,eK,B,World.mQ,z,y,run_setObj_at z]
 | some j =>
   rw[I]at B y;obtain⟨U,Z,_⟩:=Zk.1 I;have J:L[j]?=some L[j]:=Zg U;obtain⟨e,X,E,Y⟩:=sH M U;have K:L[j].1=s:=by simpa using Z
   simp[J]at B y
   have O:(Instr.keyThatStays (.int .u64 (L[j].1:Int)) (.int .u64 (s:Int))).run P w=.ok (.int .u64 (s:Int)) w:=by
    rw[K];simp[Instr.keyThatStays,Instr.sameBits]
   simp[Instr.mapUpdate,run_underlying T.map,b4 z,eK,B,World.mQ,z,y,run_setObj_at z,X,E,O]
attribute [go_sem] kU
theorem mT (ty O:TypeId)(s:Nat) [Mod w w0 S] [dc S r L] [T:od P t] :
 (Builtin.delete_ #[t,O] ty #[.map (some r),.int .u64 (s:Int)]).run P w=.ok (.tuple #[]) (w.oP r s):=by
 obtain⟨K,c,J,z⟩:=mapBlock (w0:=w0) (S:=S) (r:=r) (L:=L) w;have B:=j4 (P:=P) (t:=t) (s:=s) J w;have y:=dd s K.toList L 0 J.keys;simp only[ZM]at y
 cases E:L.findIdx? (fun p=>decide (p.1=s))with
 | none =>
   rw[E]at B y;simp[Builtin.delete_,run_underlying T.map,b4 z,eK,B,World.oP,z,y,run_setObj_at z]
 | some j =>
   rw[E]at B y;obtain⟨M,U,_⟩:=Zk.1 E;have I:L[j]?=some L[j]:=Zg M;simp[I]at B y;simp[Builtin.delete_,run_underlying T.map,b4 z,eK,B,World.oP,z,y,run_setObj_at z]
attribute [go_sem] mT
@[go_sem] theorem ua:(Instr.makeMap t none).run P w=.ok (.map (some w.heap.size)) (w.alloc (.map #[] 0)):=by
 simp[Instr.makeMap]
theorem dq {α β:Type}(f:α->β):∀(l:List α)(j:Nat),(l.eraseIdx j).map f=(l.map f).eraseIdx j
 | [],_=>by simp
 | _::_,0=>by simp
 | a::l,j+1=>by simp[dq f l j]
theorem om {z:Array MapEntry}{j:Nat}{s:Nat}{v:Value}(I:j<L.length)(B:z.toList.map (fun e=>(e.key,e.val))=L.map (fun p=>(Value.int .u64 (p.1:Int),p.2)))
 (K:L[j].1=s):(z.modify j fun e=>{e with key:=.int .u64 (s:Int),val:=v}).toList.map (fun e=>(e.key,e.val))=(L.modify j fun p=>(p.1,v)).map (fun p=>(Value.int .u64 (p.1:Int),p.2)):=by
 have J:z.size=L.length:=by have:=congrArg List.length B;simpa using this
 apply Yu;intro i;have E:=congrArg (fun l=>l[i]?) B;simp only[Yc,ZG]at E;simp only[Yc,ZG,Yo,Xd];by_cases y:j=i
 ·subst y
  simp[J,I,K]
 ·simp only[if_neg y]
  cases M:z[i]? <;> cases O:L[i]? <;> simp_all
theorem pu {s:Nat}{v:Value}{j:Nat}(hn:(L.map (·.1)).Nodup)(z:j<L.length)(E:L[j].1=s):cV L s v=L.modify j fun p=>(p.1,v):=by
 unfold cV;rw[if_pos (Yb.2 ⟨L[j],Zq z,by simp[E]⟩)];apply Yu;intro i;simp only[Yc,Xd];by_cases y:j=i
 ·subst y;simp[z,E]
 ·simp only[if_neg y]
  cases I:L[i]? with
  | none=>simp
  | some p =>
    obtain⟨K,rfl⟩:=Yd.1 I
    have B:L[i].1≠s:=by
     intro J;have:=Xm (h₀:=by simpa using z) (h₁:=by simpa using K) hn;simp only[Xa]at this;exact y (this.1 (E.trans J.symm))
    simp[B]
theorem qy (L:eR)(s:Nat)(v:Value)(h:L.any (fun p=>decide (p.1=s))=true):(cV L s v).map (·.1)=L.map (·.1):=by
 unfold cV;rw[if_pos h,Yw];apply YS;intro p _;simp only[Function.comp]
 split <;> rfl
theorem of {s:Nat}{j:Nat}(y:j<L.length)(z:L[j].1=s):L.any (fun p=>decide (p.1=s))=true:=by
 exact Yb.2 ⟨L[j],Zq y,by simp[z]⟩
theorem fb.put {E:Array MapEntry}{c:Nat}(y:fb E c L)(s:Nat)(v:Value) :
 ∃O c',(match Instr.findNow (.int .u64) (.int .u64 (s:Int)) E.toList 0 with
  | some (some (i,_))=>Obj.map (E.modify i fun e=>{e with key:=.int .u64 (s:Int),val:=v}) c
  | _=>.map (E.push {key:=.int .u64 (s:Int),val:=v,born:=c}) (c+1))=.map O c'/\fb O c' (cV L s v):=by
 have J:=dd s E.toList L 0 y.keys;simp only[ZM]at J
 cases V:L.findIdx? (fun p=>decide (p.1=s))with
 | none =>
   rw[V]at J;simp only[Option.bind_none]at J;rw[J]
   have z:L.any (fun p=>decide (p.1=s))=false:=by
    rw[ZV]at V;rw[Y3];intro p hp;simpa using V p hp
   have B:cV L s v=L++[(s,v)]:=by unfold cV;rw[if_neg (by rw[z];simp)]
   refine⟨_,_,rfl,?_⟩;rw[B];refine⟨by simp[y.keys],?_,?_,?_⟩
   ·simp only[Xt]
    rw[Yf];exact⟨y.born,by simp,fun a X b U=>by simp at U;subst U;exact y.lt a X⟩
   ·intro e K
    simp only[Xt,ZA,ZE]at K;rcases K with K | rfl
    ·have:=y.lt e K;omega
    ·simp
   ·rw[ZP,Yx]
    refine⟨y.nodup,by simp,?_⟩;intro a X b U;simp at U;subst U;rintro rfl;rw[Zz]at X;obtain⟨p,hp,rfl⟩:=X;rw[Y3]at z;exact z p hp (by simp)
 | some j =>
   rw[V]at J;obtain⟨Y,hk,_⟩:=Zk.1 V;have aa:L[j]?=some L[j]:=Zg Y;have M:L[j].1=s:=by simpa using hk
   simp only[Option.bind_some,aa,Option.map_some]at J;rw[J];refine⟨_,_,rfl,?_⟩;have B:=pu (v:=v) y.nodup Y M;refine⟨by rw[B];exact om Y y.keys M,?_,?_,by rw[qy L s v (of Y M)];exact y.nodup⟩
   ·have e:(E.modify j fun e=>{e with key:=.int .u64 (s:Int),val:=v}).toList.map (·.born)=E.toList.map (·.born):=by
     apply Yu;intro i;simp only[Yc,ZG,Yo]
     split
     ·cases E[i]? <;> simp
     ·rfl
    have:=y.born;have h1:(E.toList.map (·.born)).Pairwise (·<·):=Y5.2 this;rw[<-e]at h1;exact Y5.1 h1
   ·intro e K
    rw[zak]at K;obtain⟨i,I⟩:=K;simp only[ZG,Yo]at I
    split at I
    ·cases Z:E[i]? with
     | none=>rw[Z]at I;simp at I
     | some x =>
       rw[Z]at I;simp at I;subst I;exact y.lt x (Xb (by rw[ZG];exact Z))
    ·exact y.lt e (Xb (by rw[ZG];exact I))
theorem fb.del {y:Array MapEntry}{c:Nat}(z:fb y c L)(s:Nat) :
 ∃K c',(match Instr.findNow (.int .u64) (.int .u64 (s:Int)) y.toList 0 with
  | some (some (i,_))=>Obj.map (y.eraseIdxIfInBounds i) c
  | _=>.map y c)=.map K c'/\fb K c' (cG L s):=by
 have B:=dd s y.toList L 0 z.keys;simp only[ZM]at B
 cases M:L.findIdx? (fun p=>decide (p.1=s))with
 | none =>
   rw[M]at B;simp only[Option.bind_none]at B;rw[B]
   have hd:cG L s=L:=by
    unfold cG;rw[ZR];rw[ZV]at M;intro p hp;simpa using M p hp
   exact⟨_,_,rfl,by rw[hd];exact z⟩
 | some j =>
   rw[M]at B;obtain⟨I,hk,_⟩:=Zk.1 M;have V:L[j]?=some L[j]:=Zg I;have X:L[j].1=s:=by simpa using hk
   simp only[Option.bind_some,V,Option.map_some]at B;rw[B];have hl:y.size=L.length:=by have:=congrArg List.length z.keys;simpa using this
   have E:(y.eraseIdxIfInBounds j).toList=y.toList.eraseIdx j:=by
    rw[Array.eraseIdxIfInBounds,dif_pos (by omega)];simp[Array.toList_eraseIdx]
   have hd:cG L s=L.eraseIdx j:=by
    unfold cG
    have U:∀(l:eR)(j:Nat)(I:j<l.length),(l.map (·.1)).Nodup->l[j].1=s->l.filter (fun p => !decide (p.1=s))=l.eraseIdx j:=by
     intro l
     induction l with
     | nil=>intro j I;simp at I
     | cons p l ih =>
       intro j I hn J;rw[Zy,Yq]at hn
       cases j with
       | zero =>
         simp only[List.getElem_cons_zero]at J;simp only[XF,List.tail_cons];rw[YZ,if_neg (by simp[J]),ZR];intro q hq;have:q.1≠s:=fun e=>hn.1 (by rw[J,<-e];exact ZC hq);simp[this]
       | succ j =>
         simp only[List.getElem_cons_succ]at J;have O:j<l.length:=by simpa using I
         have Y:p.1≠s:=fun e=>hn.1 (by rw[e,<-J];exact ZC (Zq O));rw[YZ,if_pos (by simp[Y]),List.eraseIdx_cons_succ,ih j O hn.2 J]
    exact U L j I z.nodup X
   refine⟨_,_,rfl,?_⟩;rw[hd];refine⟨by rw[E,dq,z.keys,<-dq],?_,?_,?_⟩
   ·rw[E];exact z.born.sublist (Yy _ _)
   ·rw[E];exact fun e Z=>z.lt e ((Yy _ _).subset Z)
   ·rw[dq];exact z.nodup.sublist (Yy _ _)
theorem ms {F:ba}{J:eR}{E:World} [m:Mod w w0 S] [tk:eM S (gv r) L F](U:E.os=w.os)(V:E.tape=w.tape)(X:E.output=w.output)
 (h:∀z c,fb z c L->w.heap[r]?=some (.map z c)->∃y c',E.heap=w.heap.setIfInBounds r (.map y c')/\fb y c' J):Mod E w0 (gv r J*F):=by
 have hb:dc S r L:=by rw[tk.eq];infer_instance
 obtain⟨z,c,Y,M⟩:=mapBlock (w0:=w0) (S:=S) (r:=r) (L:=L) w;obtain⟨y,c',K,I⟩:=h z c Y M;have Z:r<w.heap.size:=(ZX.1 M).1;refine Mod.turn (w:=w) (g:=r) (pred:=gv r) (u:=L) U V X (fun k B=>?_) (fun x ⟨z,c,_,O⟩=>?_) (fun x ⟨z,c,_,O⟩ _=>?_)
 ·rw[K,YX (Ne.symm B)]
 ·rw[O];exact⟨fun k B=>by simp[Hp.one,B],by simp[Hp.one]⟩
 ·refine⟨y,c',I,?_⟩
  funext k
  by_cases B:k=r
  ·subst B;simp[Hp.one,K,Z]
  ·simp[Hp.one,B]
instance Mod.oB {F:ba}{s:Nat}{v:Value} [m:Mod w w0 S] [K:eM S (gv r) L F]:Mod (w.mQ r s v) w0 (gv r (cV L s v)*F):=by
 have M:dc S r L:=by rw[K.eq];infer_instance
 obtain⟨E,c,B,y⟩:=mapBlock (w0:=w0) (S:=S) (r:=r) (L:=L) w;refine ms (w:=w) (L:=L) (F:=F) ?_ ?_ ?_ (fun E c B y=>?_)
 ·simp[World.mQ,y]
 ·simp[World.mQ,y]
 ·simp[World.mQ,y]
 ·obtain⟨z,c',I,J⟩:=B.put s v
  exact⟨z,c',by simp only[World.mQ,y];rw[<-I],J⟩
instance Mod.nG {F:ba}{s:Nat} [m:Mod w w0 S] [K:eM S (gv r) L F]:Mod (w.oP r s) w0 (gv r (cG L s)*F):=by
 have M:dc S r L:=by rw[K.eq];infer_instance
 obtain⟨E,c,B,y⟩:=mapBlock (w0:=w0) (S:=S) (r:=r) (L:=L) w;refine ms (w:=w) (L:=L) (F:=F) ?_ ?_ ?_ (fun E c B y=>?_)
 ·simp[World.oP,y]
 ·simp[World.oP,y]
 ·simp[World.oP,y]
 ·obtain⟨z,c',I,J⟩:=B.del s
  exact⟨z,c',by simp only[World.oP,y];rw[<-I],J⟩
end
def kQ (it r:Nat)(L left:eR)(cur:Option (Nat×Value)):ba :=
 ⟨fun h=>∃B y z,fb B y L/\it≠r/\h=Hp.join (Hp.one r (.map B y)) (Hp.one it (.mapIter (some r) y z y)) /\
   (B.toList.filter fun e => !z.contains e.born).map (fun e=>(e.key,e.val))=left.map (fun p=>(Value.int .u64 (p.1:Int),p.2)) /\
   (∀s v,cur=some (s,v)->∃e b,z.back?=some b/\B.toList.find? (fun e=>e.born==b)=some e/\e.key=.int .u64 (s:Int)/\e.val=v)⟩
section
variable {P:Program}{w w0:World}{S F:ba}{r it:Nat}{L left:eR}{cur:Option (Nat×Value)}
theorem uw (m:Mod w w0 (kQ it r L left cur*F)):∃B z y,fb B z L/\it≠r/\w.heap[r]?=some (.map B z)/\w.heap[it]?=some (.mapIter (some r) z y z) /\
 (B.toList.filter fun e => !y.contains e.born).map (fun e=>(e.key,e.val))=left.map (fun p=>(Value.int .u64 (p.1:Int),p.2)) /\
 (∀s v,cur=some (s,v)->∃e b,y.back?=some b/\B.toList.find? (fun e=>e.born==b)=some e/\e.key=.int .u64 (s:Int)/\e.val=v):=by
 have h:=m.says;rw[bo]at h;obtain⟨a,b,_,I,⟨B,c,y,O,E,J,M,K⟩,_⟩:=h;refine⟨B,c,y,O,E,?_,?_,M,K⟩
 ·have:hp w r=some (.map B c):=by rw[I,J];simp[Hp.join,Hp.one]
  exact this
 ·have:hp w it=some (.mapIter (some r) c y c):=by rw[I,J];simp[Hp.join,Hp.one,E]
  exact this
theorem Ap {t:TypeId} [Mod w w0 S] [dc S r L] [T:od P t]:(Instr.range t (.map (some r))).run P w=.ok (.pointer (some ⟨w.heap.size,0,none⟩)) (w.lh r):=by
 obtain⟨z,c,B,y⟩:=mapBlock (w0:=w0) (S:=S) (r:=r) (L:=L) w;simp[Instr.range,run_underlying T.map,b4 y,World.lh,y]
attribute [go_sem] Ap
instance Mod.lh {n:Nat} [hn:lY w n] [m:Mod w w0 S] [t:eM S (gv r) L F]:Mod (w.lh r) w0 (kQ n r L L none*F):=by
 obtain rfl:=hn.eq;have Z:dc S r L:=by rw[t.eq];infer_instance
 have h:=m.says;rw[t.eq,bo]at h;obtain⟨a,b,J,E,⟨y,c,U,I⟩,K⟩:=h
 have V:w.heap[r]?=some (.map y c):=by
  have:hp w r=some (.map y c):=by rw[E,I];simp[Hp.join,Hp.one]
  exact this
 have hr:r<w.heap.size:=(ZX.1 V).1;have M:w.lh r=w.alloc (.mapIter (some r) c #[] c):=by simp[World.lh,V]
 rw[M];refine⟨m.os,m.tape,m.output,?_⟩;rw[bo];obtain⟨X,Y⟩:=zw w (.mapIter (some r) c #[] c);refine⟨Hp.join (Hp.one r (.map y c)) (Hp.one w.heap.size (.mapIter (some r) c #[] c)),b,?_,?_,⟨y,c,#[],U,by omega,rfl,?_,fun s v h=>by cases h⟩,K⟩
 ·intro k
  by_cases z:k=w.heap.size
  ·right
   have B:hp w k=none:=by rw[z];simp[hp]
   rw[E]at B
   cases O:a k with
   | none=>simpa [Hp.join,O]using B
   | some o=>simp[Hp.join,O]at B
  ·rcases J k with h | h
   ·left
    rw[I]at h;simp only[Hp.join,h,Option.none_or];simp[Hp.one,z]
   ·exact .inr h
 ·rw[X,E,I]
  funext k
  simp only[Hp.join];by_cases z:k=w.heap.size
  ·have:Hp.one r (Obj.map y c) k=none:=by simp only[Hp.one];rw[if_neg (by omega)]
   simp[Hp.one,z];rw[if_neg (by omega)];simp
  ·have:Hp.one w.heap.size (Obj.mapIter (some r) c #[] c) k=none:=by simp[Hp.one,z]
   simp[this]
 ·have:(y.toList.filter fun e => !(#[]:Array Nat).contains e.born)=y.toList:=by rw[ZR];intro e _;simp
  rw[this];exact U.keys
class kG (S:ba)(it:Nat)(s:outParam Nat)(v:outParam Value):Prop where
 has:∀h,S.says h->∃r es clock seen e b,h r=some (.map es clock)/\h it=some (.mapIter (some r) clock seen clock)/\seen.back?=some b/\es.toList.find? (fun e=>e.born==b)=some e/\e.key=.int .u64 (s:Int)/\e.val=v
instance kG.iter {s:Nat}{v:Value}:kG (kQ it r L left (some (s,v))) it s v :=
 ⟨fun h ⟨E,c,y,U,z,B,_,O⟩=>by
   obtain⟨e,b,I,J,K,M⟩:=O s v rfl
   exact⟨r,E,c,y,e,b,by rw[B];simp[Hp.join,Hp.one],by rw[B];simp[Hp.join,Hp.one,z],I,J,K,M⟩⟩
instance kG.Lw (A B:ba){s:Nat}{v:Value} [q:kG A it s v]:kG (A*B) it s v :=
 ⟨by
   rintro h ⟨x,y,_,rfl,I,_⟩;obtain⟨r,E,c,z,e,b,J,K,M⟩:=q.has x I
   exact⟨r,E,c,z,e,b,by simp[Hp.join,J],by simp[Hp.join,K],M⟩⟩
instance kG.Jt (A B:ba){s:Nat}{v:Value} [q:kG B it s v]:kG (A*B) it s v :=
 ⟨by
   rintro h ⟨x,y,z,rfl,_,M⟩;obtain⟨r,K,c,E,e,b,I,J,O⟩:=q.has y M;refine⟨r,K,c,E,e,b,?_,?_,O⟩
   ·rcases z r with h | h
    ·simp[Hp.join,h,I]
    ·rw[h]at I;cases I
   ·rcases z it with h | h
    ·simp[Hp.join,h,J]
    ·rw[h]at J;cases J⟩
@[go_sem] theorem BA {s:Nat}{v:Value} [m:Mod w w0 S] [q:kG S it s v]:(Instr.entry (.pointer (some ⟨it,0,none⟩))).run P w=.ok (.tuple #[.int .u64 (s:Int),v]) w:=by
 obtain⟨a,Z,_,J,K,_⟩:=m.says;obtain⟨r,z,c,y,e,b,X,U,M,O,V,Y⟩:=q.has a K
 have I:w.heap[r]?=some (.map z c):=by
  have:hp w r=some (.map z c):=by rw[J];simp[Hp.join,X]
  exact this
 have E:w.heap[it]?=some (.mapIter (some r) c y c):=by
  have:hp w it=some (.mapIter (some r) c y c):=by rw[J];simp[Hp.join,U]
  exact this
 have B:z.find? (fun e=>e.born==b)=some e:=by rw[<-Array.find?_toList];exact O
 simp[Instr.entry,b4 I,b4 E,M,B,V,Y]
theorem CK {y:Array MapEntry}{c:Nat}(B:fb y c L)(p:MapEntry->Bool):((y.filter p).filter (fun e=>decide (e.born<c))).toList=y.toList.filter p/\((y.filter p).filter (fun e=>decide (e.born≥c))).toList=[]:=by
 constructor
 ·rw[Y2,Y2,ZR]
  intro e z;have:=B.lt e (ZB.1 z).1;simpa using this
 ·rw[Y2,Y2,Yr]
  intro e z;have:=B.lt e (ZB.1 z).1;simp;omega
theorem p9 (m:Mod w w0 (kQ it r L left cur*F))(ty:TypeId) :
 (left=[]/\∃w',(Instr.next (.pointer (some ⟨it,0,none⟩)) false ty).run P w=.ok (.tuple #[.bool false]) w'/\Mod w' w0 (kQ it r L [] cur*F)) \/
 ∃(i:Nat)(hi:i<left.length)(w':World),(Instr.next (.pointer (some ⟨it,0,none⟩)) false ty).run P w=.ok (.tuple #[.bool true,.int .u64 (left[i].1:Int),left[i].2]) w'/\Mod w' w0 (kQ it r L (left.eraseIdx i) (some left[i])*F):=by
 obtain⟨O,c,B,hm,Z,aH,aa,hl,hc⟩:=uw m;generalize X:O.toList.filter (fun e => !B.contains e.born)=E at hl;have V:E.length=left.length:=by have:=congrArg List.length hl;simpa using this
 have Y:(!B.isEmpty && !O.isEmpty&&O.all (fun e=>decide (e.born≥c)))=false:=by
  cases he:O.isEmpty with
  | true=>simp
  | false =>
    have:O.all (fun e=>decide (e.born≥c))=false:=by
     rw[<-Array.all_toList]
     cases ak:O.toList with
     | nil=>simp[Array.isEmpty,<-Array.length_toList,ak]at he
     | cons e l =>
       have:=hm.lt e (by rw[ak];simp);simp only[List.all_cons,zaj];left;simp;omega
    rw[this];simp
 obtain⟨ho,hn⟩:=CK hm (fun e => !B.contains e.born);rw[X]at ho;have aM:((O.filter (fun e => !B.contains e.born)).filter (fun e=>decide (e.born<c)))=E.toArray:=by rw[<-ho]
 have aL:((O.filter (fun e => !B.contains e.born)).filter (fun e=>decide (e.born≥c)))=#[]:=by apply Array.ext';rw[hn]
 have gi:(getObj it).run P w=.ok (.mapIter (some r) c B c) w:=b4 aa (by intros;simp);have gr:(getObj r).run P w=.ok (.map O c) w:=b4 aH (by intros;simp)
 have af:(Instr.next (.pointer (some ⟨it,0,none⟩)) false ty).run P w=((choose (.mapNext ((if E.toArray.isEmpty then #[none]else #[])++E.toArray.map some).size)).run P w).andThen fun n w' =>
  (match ((if E.toArray.isEmpty then #[none]else #[])++E.toArray.map some)[n]? with
    | some (some e)=>(do setObj it (.mapIter (some r) c (B.push e.born) c);pure (.tuple #[.bool true,e.key,e.val]):Sem Value)
    | some none=>pure (.tuple #[.bool false])
    | none=>stuck "Next: no such candidate").run P w':=by
  simp only[Instr.next,Sem.run_bind,gi,gr,Result.andThen_ok];rw[if_neg (by rw[Y];simp)];simp only[aM,aL,Array.append_empty];exact Sem.run_bind P w _ _
 cases I:left with
 | nil =>
   left;have au:E=[]:=Zo (by rw[V,I];rfl);subst au;refine⟨rfl,w,?_,by rw[<-I];exact m⟩;rw[af];simp[Question.forced]
 | cons p0 aR =>
   right;rw[<-I];have M:0<E.length:=by rw[V,I];simp
   have ag:∃(i:Nat)(hi:i<E.length)(w1:World),w1.heap=w.heap/\w1.os=w.os/\w1.tape=w.tape/\w1.output=w.output /\
    (choose (.mapNext E.length)).run P w=.ok i w1:=by
    by_cases h1:E.length<=1
    ·exact⟨0,M,w,rfl,rfl,rfl,rfl,by simp[Question.forced,h1]⟩
    ·exact⟨(w.tape w.drawn (.mapNext E.length))%E.length,zbe _ M,w.drew,rfl,rfl,rfl,rfl,by simp[Question.forced,h1,Question.cut]⟩
   obtain⟨i,hi,w1,hh,aN,aQ,aD,aF⟩:=ag;have av:i<left.length:=by rw[<-V];exact hi
   have ah:E[i].key=.int .u64 (left[i].1:Int)/\E[i].val=left[i].2:=by
    have:=congrArg (fun l=>l[i]?) hl;simp[hi,av]at this;exact this
   have ae:E[i]∈O.toList/\B.contains E[i].born=false:=by
    have:E[i]∈O.toList.filter (fun e => !B.contains e.born):=by rw[X];exact Zq hi
    have:=ZB.1 this;exact⟨this.1,by simpa using this.2⟩
   have aG:w1.heap[it]?=some (.mapIter (some r) c B c):=by rw[hh];exact aa
   have aP:it<w.heap.size:=(ZX.1 aa).1;refine⟨i,av,{w1 with heap:=w1.heap.setIfInBounds it (.mapIter (some r) c (B.push E[i].born) c)},?_,?_⟩
   ·have aB:E≠[]:=by intro e;rw[e]at M;simp at M
    have he:E.toArray.isEmpty=false:=by simp[aB]
    rw[af,he];simp only[YH,if_false,zaz,Array.size_map,Zl,aF,Result.andThen_ok];simp[hi,run_setObj_at aG,ah]
   ·have aO:E.Pairwise (fun a b=>a.born<b.born):=by rw[<-X];exact hm.born.sublist ZT
    have h:=m.says;rw[bo]at h;obtain⟨a,b,aJ,h2,⟨U,c',K,aT,_,ha,aS,_⟩,aK⟩:=h;refine⟨aN.trans m.os,aQ.trans m.tape,aD.trans m.output,?_⟩;rw[bo]
    have e1:U=O/\c'=c:=by
     have:hp w r=some (.map U c'):=by rw[h2,ha];simp[Hp.join,Hp.one]
     have h0:hp w r=some (.map O c):=aH;rw[h0]at this;injection this with this;injection this with x y;exact⟨x.symm,y.symm⟩
    have e2:K=B:=by
     have:hp w it=some (.mapIter (some r) c' K c'):=by rw[h2,ha];simp[Hp.join,Hp.one,Z]
     have h0:hp w it=some (.mapIter (some r) c B c):=aa;rw[h0]at this;injection this with this;injection this with _ _ z _;exact z.symm
    obtain⟨rfl,rfl⟩:=e1;subst e2;refine⟨Hp.join (Hp.one r (.map U c')) (Hp.one it (.mapIter (some r) c' (K.push E[i].born) c')),b,?_,?_,⟨U,c',_,hm,Z,rfl,?_,?_⟩,aK⟩
    ·intro k
     rcases aJ k with h | h
     ·left
      rw[ha]at h;simp only[Hp.join]at h ⊢;by_cases hk:k=it
      ·subst hk;simp[Hp.one,Z]at h
      ·by_cases ax:k=r
       ·subst ax;simp[Hp.one]at h
       ·simp[Hp.one,hk,ax]
     ·exact .inr h
    ·funext k
     show (w1.heap.setIfInBounds it _)[k]?=_;rw[hh];by_cases hk:k=it
     ·subst hk;simp[Hp.join,Hp.one,Z,aP]
     ·rw[YX (Ne.symm hk)]
      have:hp w k=Hp.join a b k:=by rw[h2]
      have this:w.heap[k]?=Hp.join a b k:=this;rw[this,ha];simp only[Hp.join];simp[Hp.one,hk]
    ·rw[dq,<-hl,<-dq,<-ln E i hi aO]
     generalize E[i].born=bb;rw[<-X,Y8]
     congr 1
     apply Y4;intro e _;simp[Array.mem_push,Bool.and_comm]
    ·rintro s v aj
     have hs:left[i].1=s/\left[i].2=v:=by injection aj with h;rw[h];exact⟨rfl,rfl⟩
     refine⟨E[i],E[i].born,by simp,?_,by rw[ah.1,hs.1],by rw[ah.2,hs.2]⟩
     have ai:∀x∈U.toList,x.born=E[i].born->x=E[i]:=by
      intro x hx hb;obtain⟨n1,ay,rfl⟩:=ZI.1 hx;obtain⟨n2,az,aI⟩:=ZI.1 ae.1;rw[<-aI]at hb ⊢;have:=Z0.1 hm.born;rcases Xv n1 n2 with h | h | h
      ·have:=this n1 n2 ay az h;omega
      ·subst h;rfl
      ·have:=this n2 n1 az ay h;omega
     cases J:U.toList.find? (fun e=>e.born==E[i].born)with
     | none =>
       have:=Y9.1 J _ ae.1;simp at this
     | some x =>
       have hx:=YA J;have hb:=X4 J;rw[ai x hx (by simpa using hb)]
theorem zF (m:Mod w w0 (kQ it r L left cur*F)):Mod w w0 (gv r L*F):=by
 have h:=m.says;rw[bo]at h;obtain⟨a,b,I,X,⟨V,c,B,hm,U,K,_,_⟩,Y⟩:=h;refine⟨m.os,m.tape,m.output,?_⟩;rw[bo];obtain⟨f,t,O,J,Z,_⟩:=Y
 have E:b it=none:=by
  rcases I it with h | h
  ·rw[K]at h;simp[Hp.join,Hp.one]at h
  ·exact h
 have M:f it=none:=by
  rw[J]at E
  cases z:f it with
  | none=>rfl
  | some o=>simp[Hp.join,z]at E
 refine⟨Hp.one r (.map V c),Hp.join b (Hp.one it (.mapIter (some r) c B c)),fun k=>?_,?_,⟨V,c,hm,rfl⟩,⟨f,Hp.join t (Hp.one it (.mapIter (some r) c B c)),fun k=>?_,?_,Z,trivial⟩⟩
 ·by_cases z:k=r
  ·right
   subst z;rcases I k with h | h
   ·rw[K]at h;simp[Hp.join,Hp.one]at h
   ·simp only[Hp.join,h,Option.none_or,Hp.one];rw[if_neg (fun e=>U e.symm)]
  ·left;simp[Hp.one,z]
 ·rw[X,K]
  funext k
  simp only[Hp.join,Hp.one];by_cases z:k=r
  ·subst z;simp
  ·by_cases y:k=it
   ·subst y;simp[z,E]
   ·simp[z,y]
 ·rcases O k with h | h
  ·exact .inl h
  ·by_cases y:k=it
   ·left;rw[y];exact M
   ·right;simp[Hp.join,h,Hp.one,y]
 ·rw[J];exact Hp.join_assoc _ _ _
theorem nS {B:Array Oper}{rest:List Oper}{o:Oper}{a:Act}{Q:Exit->Act->World->Prop}(E:o.guard=none)(x:Operand)(M:o.op=.next x false)(O:a.eval x=.pointer (some ⟨it,0,none⟩))
 (m:Mod w w0 (kQ it r L left cur*F))
 (U:left=[]->∀z,Mod z w0 (kQ it r L [] cur*F)->wpList P B Q rest (a.put o.dst (.tuple #[.bool false])) z)
 (V:∀(i:Nat)(K:i<left.length)(z:World),Mod z w0 (kQ it r L (left.eraseIdx i) (some left[i])*F)->wpList P B Q rest (a.put o.dst (.tuple #[.bool true,.int .u64 (left[i].1:Int),left[i].2])) z):wpList P B Q (o::rest) a w :=
 wpList_plain E fun _ J=>by
  unfold Oper.wp execOp;rcases p9 (P:=P) m o.type with⟨X,z,y,I⟩ | ⟨i,K,z,y,I⟩
  ·simp only[M,Sem.run_bind,O,y,Result.andThen_ok,Sem.run_pure]
   exact J _ _ (U X z I)
  ·simp only[M,Sem.run_bind,O,y,Result.andThen_ok,Sem.run_pure]
   exact J _ _ (V i K z I)
end
end Go.Sl.U64
