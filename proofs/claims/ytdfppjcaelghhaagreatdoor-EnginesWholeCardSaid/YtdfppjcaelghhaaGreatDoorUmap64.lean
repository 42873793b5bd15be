/- Plain lemmas and contracts; the conditions are in each. -/
import Derived.Test.YtdfppjcaelghhaaGreatDoorBaseG
namespace Go.Sl.U64
open Go Go.Sl
abbrev eR:=List (Nat×Value)
structure fb (es:Array MapEntry)(clock:Nat)(L:eR):Prop where
 keys:es.toList.map (fun e=>(e.key,e.val))=L.map (fun p=>(Value.int .u64 (p.1:Int),p.2))
 born:es.toList.Pairwise (fun a b=>a.born<b.born)
 lt:∀e∈es.toList,e.born<clock
 nodup:(L.map (·.1)).Nodup
def gv (r:Nat)(L:eR):ba:=⟨fun h=>∃z y,fb z y L/\h=Hp.one r (.map z y)⟩
def br {α:Type}(L:List (Nat×α))(s:Nat):Option α:=(L.find? (fun p=>decide (p.1=s))).map (·.2)
def cV {α:Type}(L:List (Nat×α))(s:Nat)(v:α):List (Nat×α) :=
 if L.any (fun p=>decide (p.1=s))then L.map (fun p=>if p.1=s then (p.1,v)else p)else L++[(s,v)]
def cG {α:Type}(L:List (Nat×α))(s:Nat):List (Nat×α):=L.filter (fun p => !decide (p.1=s))
class dc (S:ba)(r:Nat)(L:outParam eR):Prop where
 has:∀h,S.says h->∃es clock,fb es clock L/\h r=some (.map es clock)
instance dc.smap (r:Nat)(L:eR):dc (gv r L) r L:=⟨fun h ⟨y,c,B,z⟩=>⟨y,c,B,by rw[z];simp[Hp.one]⟩⟩
instance dc.left (A B:ba)(r:Nat)(L:eR) [E:dc A r L]:dc (A*B) r L :=
 ⟨by
   rintro h ⟨a,b,_,rfl,z,_⟩;obtain⟨y,c,J,I⟩:=E.has a z
   exact⟨y,c,J,by simp[Hp.join,I]⟩⟩
instance dc.right (A B:ba)(r:Nat)(L:eR) [K:dc B r L]:dc (A*B) r L :=
 ⟨by
   rintro h ⟨a,b,I,rfl,O,J⟩;obtain⟨E,c,M,z⟩:=K.has b J;refine⟨E,c,M,?_⟩;rcases I r with y | y
   ·simp[Hp.join,y,z]
   ·rw[y]at z;cases z⟩
instance eM.smap (r:Nat)(L:eR):eM (gv r L) (gv r) L sC:=⟨(eI _).symm⟩
theorem fb.made:fb #[] 0 []:=⟨rfl,by simp,by simp,by simp⟩
theorem pz (r:Nat):(gv r []).says (Hp.one r (.map #[] 0)):=⟨#[],0,fb.made,rfl⟩
theorem Dc {w w0:World}{S:ba}{n:Nat} [m:Mod w w0 (Go.Sl.gv n []*S)]:Mod w w0 (gv n []*S) :=
 Mod.conv (S:=Go.Sl.gv n []*S) fun x I=>lF (A:=Go.Sl.gv n []) (A':=gv n []) (fun y ⟨z,c,E,B⟩=>by
  have:z=#[]:=by have:=congrArg List.length E.keys;simpa using this
  subst this
  exact⟨#[],c,⟨rfl,by simp,by simp,by simp⟩,B⟩) I
class od (P:Program)(t:TypeId):Prop where
 map:P.underlying t=some (.map (P.mapKey t) (P.mapElem t))
 key:P.underlying (P.mapKey t)=some (.int .u64)
 zero:∀w,(zeroValue (P.mapElem t)).run P w=.ok (P.zeroOf (P.mapElem t)) w
section
variable {P:Program}{w w0:World}{S:ba}{t:TypeId}{r:Nat}{L:eR}
theorem mapBlock (w:World) [m:Mod w w0 S] [h:dc S r L]:∃z y,fb z y L/\w.heap[r]?=some (.map z y):=by
 obtain⟨a,b,_,B,E,_⟩:=m.says;obtain⟨z,c,J,I⟩:=h.has a E;refine⟨z,c,J,?_⟩;have:hp w r=some (.map z c):=by rw[B];simp[Hp.join,I]
 exact this
theorem fB {o:Obj}(h:w.heap[r]?=some o)(y:∀c e f,o ≠ .cells c e f):(getObj r).run P w=.ok o w:=by
 cases o <;> simp[getObj,Sem.run,h] <;> exact absurd rfl (y _ _ _)
theorem run_setObj_at {o o':Obj}(h:w.heap[r]?=some o)(y:∀c e f,o ≠ .cells c e f):(setObj r o').run P w=.ok () {w with heap:=w.heap.setIfInBounds r o' }:=by
 cases o <;> simp[setObj,Sem.run,h] <;> exact absurd rfl (y _ _ _)
theorem dd (s:Nat):∀(y:List MapEntry)(L:eR)(i:Nat),y.map (fun e=>(e.key,e.val))=L.map (fun p=>(Value.int .u64 (p.1:Int),p.2)) ->
 Instr.findNow (.int .u64) (.int .u64 (s:Int)) y i=some ((L.findIdx? (fun p=>decide (p.1=s))).bind fun j=>(L[j]?).map fun p=>(i+j,p.2))
 | [],L,i,h=>by
   have:L=[]:=by cases L;rfl;simp at h
   subst this;simp[Instr.findNow]
 | e::y,[],i,h=>by simp at h
 | e::y,p::L,i,h=>by
   simp only[Zy,zbf,Prod.mk.injEq]at h;obtain⟨⟨E,J⟩,I⟩:=h;have K:=dd s y L (i+1) I;simp only[Instr.findNow,E,Instr.sameNow,Xo];by_cases z:p.1=s
   ·have B:((s:Int)==(p.1:Int))=true:=beq_iff_eq.2 (by rw[z])
    simp only[B];simp[z,J]
   ·have B:((s:Int)==(p.1:Int))=false:=by
     cases h:((s:Int)==(p.1:Int))with
     | false=>rfl
     | true=>exact absurd (Int.ofNat.inj (beq_iff_eq.1 h)).symm z
    simp only[B,z,decide_false];rw[K]
    cases M:L.findIdx? (fun p=>decide (p.1=s))with
    | none=>simp
    | some j=>simp[YB,XR 1 j]
theorem j2 (L:eR)(s:Nat):br L s=(L.findIdx? (fun p=>decide (p.1=s))).bind fun j=>(L[j]?).map (·.2):=by
 unfold br
 induction L with
 | nil=>simp
 | cons p L z =>
   simp only[List.find?_cons,Xo];by_cases y:p.1=s
   ·simp[y]
   ·simp only[y,z,decide_false]
    cases B:L.findIdx? (fun p=>decide (p.1=s)) <;> simp
theorem j4 {s:Nat} [T:od P t]{y:Array MapEntry}{c:Nat}(z:fb y c L)(w:World) :
 (Instr.findKey (P.mapKey t) (.int .u64 (s:Int)) y.toList).run P w=.ok ((L.findIdx? (fun p=>decide (p.1=s))).bind fun j=>(L[j]?).map fun p=>(j,p.2)) w:=by
 have:=dd s y.toList L 0 z.keys;simp only[ZM]at this;exact MapKept.run_findKey T.key this
theorem eK {s:Nat} [T:od P t](b:Bool)(w:World):(Instr.checkKey b 10000 (P.mapKey t) (.int .u64 (s:Int))).run P w=.ok () w :=
 MapKept.run_checkKey (d:=.int .u64) T.key (by trivial) b 9999
@[go_sem] theorem s9 (s:Nat) [Mod w w0 S] [dc S r L] [T:od P t] :
 (Instr.lookup t (.map (some r)) (.int .u64 (s:Int)) true).run P w=.ok (.tuple #[(br L s).getD (P.zeroOf (P.mapElem t)),.bool (br L s).isSome]) w:=by
 obtain⟨M,c,K,I⟩:=mapBlock (w0:=w0) (S:=S) (r:=r) (L:=L) w;have y:=j4 (P:=P) (t:=t) (s:=s) K w;have z:=j2 L s
 cases B:L.findIdx? (fun p=>decide (p.1=s))with
 | none=>rw[B]at y z;simp[Instr.lookup,run_underlying T.map,fB I,eK,y,T.zero,z]
 | some j =>
   rw[B]at y z;obtain⟨J,_⟩:=Zk.1 B;have E:L[j]?=some L[j]:=Zg J;simp[E]at y z;simp[Instr.lookup,run_underlying T.map,fB I,eK,y,z]
@[go_sem] theorem vV (s:Nat) [Mod w w0 S] [dc S r L] [T:od P t] :
 (Instr.lookup t (.map (some r)) (.int .u64 (s:Int)) false).run P w=.ok ((br L s).getD (P.zeroOf (P.mapElem t))) w:=by
 obtain⟨M,c,K,I⟩:=mapBlock (w0:=w0) (S:=S) (r:=r) (L:=L) w;have y:=j4 (P:=P) (t:=t) (s:=s) K w;have z:=j2 L s
 cases B:L.findIdx? (fun p=>decide (p.1=s))with
 | none=>rw[B]at y z;simp[Instr.lookup,run_underlying T.map,fB I,eK,y,T.zero,z]
 | some j =>
   rw[B]at y z;obtain⟨J,_⟩:=Zk.1 B;have E:L[j]?=some L[j]:=Zg J;simp[E]at y z;simp[Instr.lookup,run_underlying T.map,fB I,eK,y,z]
@[go_sem] theorem vU (ty:TypeId) [Mod w w0 S] [dc S r L] [T:od P t]:(Builtin.len_ #[t] ty #[.map (some r)]).run P w=.ok (goInt L.length) w:=by
 obtain⟨y,c,B,E⟩:=mapBlock (w0:=w0) (S:=S) (r:=r) (L:=L) w;have z:y.size=L.length:=by have:=congrArg List.length B.keys;simpa using this
 simp[Builtin.len_,run_underlying T.map,fB E,z]
def _root_.Go.World.mQ (w:World)(r:Nat)(s:Nat)(v:Value):World :=
 match w.heap[r]? with
 | some (.map es clock) =>
   {w with heap:=w.heap.setIfInBounds r (match Instr.findNow (.int .u64) (.int .u64 (s:Int)) es.toList 0 with
    | some (some (i,_))=>.map (es.modify i fun e=>{e with key:=.int .u64 (s:Int),val:=v}) clock
    | _=>.map (es.push {key:=.int .u64 (s:Int),val:=v,born:=clock}) (clock+1))}
 | _=>w
def _root_.Go.World.oP (w:World)(r:Nat)(s:Nat):World :=
 match w.heap[r]? with
 | some (.map es clock) =>
   {w with heap:=w.heap.setIfInBounds r (match Instr.findNow (.int .u64) (.int .u64 (s:Int)) es.toList 0 with
    | some (some (i,_))=>.map (es.eraseIdxIfInBounds i) clock
    | _=>.map es clock)}
 | _=>w
theorem sH {y:Array MapEntry}{c:Nat}(E:fb y c L){j:Nat}(z:j<L.length):∃e,y[j]?=some e/\e.key=.int .u64 (L[j].1:Int)/\e.val=L[j].2:=by
 have B:y.size=L.length:=by have:=congrArg List.length E.keys;simpa using this
 refine⟨y[j],by simp[B,z],?_⟩;have:=congrArg (fun l=>l[j]?) E.keys;simp[B,z]at this;exact this
theorem kU (s:Nat)(v:Value) [Mod w w0 S] [dc S r L] [T:od P t] :
 (Instr.mapUpdate t (.map (some r)) (.int .u64 (s:Int)) v).run P w=.ok () (w.mQ r s v):=by
 obtain⟨V,c,M,z⟩:=mapBlock (w0:=w0) (S:=S) (r:=r) (L:=L) w;have B:=j4 (P:=P) (t:=t) (s:=s) M w;have y:=dd s V.toList L 0 M.keys;simp only[ZM]at y
 cases I:L.findIdx? (fun p=>decide (p.1=s))with
 | none =>
   rw[I]at B y;simp[Instr.mapUpdate,run_underlying T.map,fB z,eK,B,World.mQ,z,y,run_setObj_at z]
 | some j =>
   rw[I]at B y;obtain⟨U,hk,_⟩:=Zk.1 I;have J:L[j]?=some L[j]:=Zg U;obtain⟨e,Y,E,Z⟩:=sH M U;have K:L[j].1=s:=by simpa using hk
   simp[J]at B y
   have O:(Instr.keyThatStays (.int .u64 (L[j].1:Int)) (.int .u64 (s:Int))).run P w=.ok (.int .u64 (s:Int)) w:=by
    rw[K];simp[Instr.keyThatStays,Instr.sameBits]
   simp[Instr.mapUpdate,run_underlying T.map,fB z,eK,B,World.mQ,z,y,run_setObj_at z,Y,E,O]
attribute [go_sem] kU
theorem mT (ty O:TypeId)(s:Nat) [Mod w w0 S] [dc S r L] [T:od P t] :
 (Builtin.delete_ #[t,O] ty #[.map (some r),.int .u64 (s:Int)]).run P w=.ok (.tuple #[]) (w.oP r s):=by
 obtain⟨K,c,J,z⟩:=mapBlock (w0:=w0) (S:=S) (r:=r) (L:=L) w;have B:=j4 (P:=P) (t:=t) (s:=s) J w;have y:=dd s K.toList L 0 J.keys;simp only[ZM]at y
 cases E:L.findIdx? (fun p=>decide (p.1=s))with
 | none =>
   rw[E]at B y;simp[Builtin.delete_,run_underlying T.map,fB z,eK,B,World.oP,z,y,run_setObj_at z]
 | some j =>
   rw[E]at B y;obtain⟨M,U,_⟩:=Zk.1 E;have I:L[j]?=some L[j]:=Zg M;simp[I]at B y;simp[Builtin.delete_,run_underlying T.map,fB z,eK,B,World.oP,z,y,run_setObj_at z]
attribute [go_sem] mT
@[go_sem] theorem ua:(Instr.makeMap t none).run P w=.ok (.map (some w.heap.size)) (w.alloc (.map #[] 0)):=by
 simp[Instr.makeMap]
theorem dq {α β:Type}(f:α->β):∀(l:List α)(j:Nat),(l.eraseIdx j).map f=(l.map f).eraseIdx j
 | [],_=>by simp
 | _::_,0=>by simp
 | a::l,j+1=>by simp[dq f l j]
theorem om {z:Array MapEntry}{j:Nat}{s:Nat}{v:Value}(I:j<L.length)(B:z.toList.map (fun e=>(e.key,e.val))=L.map (fun p=>(Value.int .u64 (p.1:Int),p.2)))
 (K:L[j].1=s):(z.modify j fun e=>{e with key:=.int .u64 (s:Int),val:=v}).toList.map (fun e=>(e.key,e.val))=(L.modify j fun p=>(p.1,v)).map (fun p=>(Value.int .u64 (p.1:Int),p.2)):=by
 have J:z.size=L.length:=by have:=congrArg List.length B;simpa using this
 apply Yu;intro i;have E:=congrArg (fun l=>l[i]?) B;simp only[Yc,ZG]at E;simp only[Yc,ZG,Yo,Xd];by_cases y:j=i
 ·subst y
  simp[J,I,K]
 ·simp only[if_neg y]
  cases M:z[i]? <;> cases O:L[i]? <;> simp_all
theorem pu {s:Nat}{v:Value}{j:Nat}(hn:(L.map (·.1)).Nodup)(z:j<L.length)(E:L[j].1=s):cV L s v=L.modify j fun p=>(p.1,v):=by
 unfold cV;rw[if_pos (Yb.2 ⟨L[j],Zq z,by simp[E]⟩)];apply Yu;intro i;simp only[Yc,Xd];by_cases y:j=i
 ·subst y;simp[z,E]
 ·simp only[if_neg y]
  cases I:L[i]? with
  | none=>simp
  | some p =>
    obtain⟨K,rfl⟩:=Yd.1 I
    have B:L[i].1≠s:=by
     intro J;have:=Xm (h₀:=by simpa using z) (h₁:=by simpa using K) hn;simp only[Xa]at this;exact y (this.1 (E.trans J.symm))
    simp[B]
theorem qy (L:eR)(s:Nat)(v:Value)(h:L.any (fun p=>decide (p.1=s))=true):(cV L s v).map (·.1)=L.map (·.1):=by
 unfold cV;rw[if_pos h,Yw];apply YS;intro p _;simp only[Function.comp]
 split <;> rfl
theorem of {s:Nat}{j:Nat}(y:j<L.length)(z:L[j].1=s):L.any (fun p=>decide (p.1=s))=true:=by
 exact Yb.2 ⟨L[j],Zq y,by simp[z]⟩
theorem fb.put {E:Array MapEntry}{c:Nat}(y:fb E c L)(s:Nat)(v:Value) :
 ∃O c',(match Instr.findNow (.int .u64) (.int .u64 (s:Int)) E.toList 0 with
  | some (some (i,_))=>Obj.map (E.modify i fun e=>{e with key:=.int .u64 (s:Int),val:=v}) c
  | _=>.map (E.push {key:=.int .u64 (s:Int),val:=v,born:=c}) (c+1))=.map O c'/\fb O c' (cV L s v):=by
 have J:=dd s E.toList L 0 y.keys;simp only[ZM]at J
 cases V:L.findIdx? (fun p=>decide (p.1=s))with
 | none =>
   rw[V]at J;simp only[Option.bind_none]at J;rw[J]
   have z:L.any (fun p=>decide (p.1=s))=false:=by
    rw[ZV]at V;rw[Y3];intro p hp;simpa using V p hp
   have B:cV L s v=L++[(s,v)]:=by unfold cV;rw[if_neg (by rw[z];simp)]
   refine⟨_,_,rfl,?_⟩;rw[B];refine⟨by simp[y.keys],?_,?_,?_⟩
   ·simp only[Xt]
    rw[Yf];exact⟨y.born,by simp,fun a Y b U=>by simp at U;subst U;exact y.lt a Y⟩
   ·intro e K
    simp only[Xt,ZA,ZE]at K;rcases K with K | rfl
    ·have:=y.lt e K;omega
    ·simp
   ·rw[ZP,Yx]
    refine⟨y.nodup,by simp,?_⟩;intro a Y b U;simp at U;subst U;rintro rfl;rw[Zz]at Y;obtain⟨p,hp,rfl⟩:=Y;rw[Y3]at z;exact z p hp (by simp)
 | some j =>
   rw[V]at J;obtain⟨Z,hk,_⟩:=Zk.1 V;have aa:L[j]?=some L[j]:=Zg Z;have M:L[j].1=s:=by simpa using hk
   simp only[Option.bind_some,aa,Option.map_some]at J;rw[J];refine⟨_,_,rfl,?_⟩;have B:=pu (v:=v) y.nodup Z M;refine⟨by rw[B];exact om Z y.keys M,?_,?_,by rw[qy L s v (of Z M)];exact y.nodup⟩
   ·have e:(E.modify j fun e=>{e with key:=.int .u64 (s:Int),val:=v}).toList.map (·.born)=E.toList.map (·.born):=by
     apply Yu;intro i;simp only[Yc,ZG,Yo]
     split
     ·cases E[i]? <;> simp
     ·rfl
    have:=y.born;have h1:(E.toList.map (·.born)).Pairwise (·<·):=Y5.2 this;rw[<-e]at h1;exact Y5.1 h1
   ·intro e K
    rw[zak]at K;obtain⟨i,I⟩:=K;simp only[ZG,Yo]at I
    split at I
    ·cases h2:E[i]? with
     | none=>rw[h2]at I;simp at I
     | some x =>
       rw[h2]at I;simp at I;subst I;exact y.lt x (Xb (by rw[ZG];exact h2))
    ·exact y.lt e (Xb (by rw[ZG];exact I))
theorem fb.del {y:Array MapEntry}{c:Nat}(z:fb y c L)(s:Nat) :
 ∃K c',(match Instr.findNow (.int .u64) (.int .u64 (s:Int)) y.toList 0 with
  | some (some (i,_))=>Obj.map (y.eraseIdxIfInBounds i) c
  | _=>.map y c)=.map K c'/\fb K c' (cG L s):=by
 have B:=dd s y.toList L 0 z.keys;simp only[ZM]at B
 cases M:L.findIdx? (fun p=>decide (p.1=s))with
 | none =>
   rw[M]at B;simp only[Option.bind_none]at B;rw[B]
   have hd:cG L s=L:=by
    unfold cG;rw[ZR];rw[ZV]at M;intro p hp;simpa using M p hp
   exact⟨_,_,rfl,by rw[hd];exact z⟩
 | some j =>
   rw[M]at B;obtain⟨I,hk,_⟩:=Zk.1 M;have V:L[j]?=some L[j]:=Zg I;have Y:L[j].1=s:=by simpa using hk
   simp only[Option.bind_some,V,Option.map_some]at B;rw[B];have hl:y.size=L.length:=by have:=congrArg List.length z.keys;simpa using this
   have E:(y.eraseIdxIfInBounds j).toList=y.toList.eraseIdx j:=by
    rw[Array.eraseIdxIfInBounds,dif_pos oMg];simp[]
   have hd:cG L s=L.eraseIdx j:=by
    unfold cG
    have U:∀(l:eR)(j:Nat)(I:j<l.length),(l.map (·.1)).Nodup->l[j].1=s->l.filter (fun p => !decide (p.1=s))=l.eraseIdx j:=by
     intro l
     induction l with
     | nil=>intro j I;simp at I
     | cons p l ih =>
       intro j I hn J;rw[Zy,Yq]at hn
       cases j with
       | zero =>
         simp only[List.getElem_cons_zero]at J;simp only[XF,List.tail_cons];rw[YZ,if_neg (by simp[J]),ZR];intro q hq;have:q.1≠s:=fun e=>hn.1 (by rw[J,<-e];exact ZC hq);simp[this]
       | succ j =>
         simp only[List.getElem_cons_succ]at J;have O:j<l.length:=by simpa using I
         have Z:p.1≠s:=fun e=>hn.1 (by rw[e,<-J];exact ZC (Zq O));rw[YZ,if_pos (by simp[Z]),List.eraseIdx_cons_succ,ih j O hn.2 J]
    exact U L j I z.nodup Y
   refine⟨_,_,rfl,?_⟩;rw[hd];refine⟨by rw[E,dq,z.keys,<-dq],?_,?_,?_⟩
   ·rw[E];exact z.born.sublist (Yy _ _)
   ·rw[E];exact fun e he=>z.lt e ((Yy _ _).subset he)
   ·rw[dq];exact z.nodup.sublist (Yy _ _)
theorem ms {F:ba}{J:eR}{E:World} [m:Mod w w0 S] [tk:eM S (gv r) L F](U:E.os=w.os)(V:E.tape=w.tape)(Y:E.output=w.output)
 (h:∀z c,fb z c L->w.heap[r]?=some (.map z c)->∃y c',E.heap=w.heap.setIfInBounds r (.map y c')/\fb y c' J):Mod E w0 (gv r J*F):=by
 have hb:dc S r L:=by rw[tk.eq];infer_instance
 obtain⟨z,c,Z,M⟩:=mapBlock (w0:=w0) (S:=S) (r:=r) (L:=L) w;obtain⟨y,c',K,I⟩:=h z c Z M;have hr:r<w.heap.size:=(ZX.1 M).1;refine Mod.turn (w:=w) (g:=r) (pred:=gv r) (u:=L) U V Y (fun k B=>?_) (fun x ⟨z,c,_,O⟩=>?_) (fun x ⟨z,c,_,O⟩ _=>?_)
 ·rw[K,YX (Ne.symm B)]
 ·rw[O];exact⟨fun k B=>by simp[Hp.one,B],by simp[Hp.one]⟩
 ·refine⟨y,c',I,?_⟩
  funext k
  by_cases B:k=r
  ·subst B;simp[Hp.one,K,hr]
  ·simp[Hp.one,B]
instance Mod.oB {F:ba}{s:Nat}{v:Value} [m:Mod w w0 S] [K:eM S (gv r) L F]:Mod (w.mQ r s v) w0 (gv r (cV L s v)*F):=by
 have M:dc S r L:=by rw[K.eq];infer_instance
 obtain⟨E,c,B,y⟩:=mapBlock (w0:=w0) (S:=S) (r:=r) (L:=L) w;refine ms (w:=w) (L:=L) (F:=F) ?_ ?_ ?_ (fun E c B y=>?_)
 ·simp[World.mQ,y]
 ·simp[World.mQ,y]
 ·simp[World.mQ,y]
 ·obtain⟨z,c',I,J⟩:=B.put s v
  exact⟨z,c',by simp only[World.mQ,y];rw[<-I],J⟩
instance Mod.nG {F:ba}{s:Nat} [m:Mod w w0 S] [K:eM S (gv r) L F]:Mod (w.oP r s) w0 (gv r (cG L s)*F):=by
 have M:dc S r L:=by rw[K.eq];infer_instance
 obtain⟨E,c,B,y⟩:=mapBlock (w0:=w0) (S:=S) (r:=r) (L:=L) w;refine ms (w:=w) (L:=L) (F:=F) ?_ ?_ ?_ (fun E c B y=>?_)
 ·simp[World.oP,y]
 ·simp[World.oP,y]
 ·simp[World.oP,y]
 ·obtain⟨z,c',I,J⟩:=B.del s
  exact⟨z,c',by simp only[World.oP,y];rw[<-I],J⟩
end
def kQ (it r:Nat)(L left:eR)(cur:Option (Nat×Value)):ba :=
 ⟨fun h=>∃B y z,fb B y L/\it≠r/\h=Hp.join (Hp.one r (.map B y)) (Hp.one it (.mapIter (some r) y z y)) /\
   (B.toList.filter fun e => !z.contains e.born).map (fun e=>(e.key,e.val))=left.map (fun p=>(Value.int .u64 (p.1:Int),p.2)) /\
   (∀s v,cur=some (s,v)->∃e b,z.back?=some b/\B.toList.find? (fun e=>e.born==b)=some e/\e.key=.int .u64 (s:Int)/\e.val=v)⟩
section
variable {P:Program}{w w0:World}{S F:ba}{r it:Nat}{L left:eR}{cur:Option (Nat×Value)}
theorem uw (m:Mod w w0 (kQ it r L left cur*F)):∃B z y,fb B z L/\it≠r/\w.heap[r]?=some (.map B z)/\w.heap[it]?=some (.mapIter (some r) z y z) /\
 (B.toList.filter fun e => !y.contains e.born).map (fun e=>(e.key,e.val))=left.map (fun p=>(Value.int .u64 (p.1:Int),p.2)) /\
 (∀s v,cur=some (s,v)->∃e b,y.back?=some b/\B.toList.find? (fun e=>e.born==b)=some e/\e.key=.int .u64 (s:Int)/\e.val=v):=by
 have h:=m.says;rw[bo]at h;obtain⟨a,b,_,I,⟨B,c,y,O,E,J,M,K⟩,_⟩:=h;refine⟨B,c,y,O,E,?_,?_,M,K⟩
 ·have:hp w r=some (.map B c):=by rw[I,J];simp[Hp.join,Hp.one]
  exact this
 ·have:hp w it=some (.mapIter (some r) c y c):=by rw[I,J];simp[Hp.join,Hp.one,E]
  exact this
instance Mod.lh {n:Nat} [hn:lY w n] [m:Mod w w0 S] [t:eM S (gv r) L F]:Mod (w.lh r) w0 (kQ n r L L none*F):=by
 obtain rfl:=hn.eq;have hb:dc S r L:=by rw[t.eq];infer_instance
 have h:=m.says;rw[t.eq,bo]at h;obtain⟨a,b,J,E,⟨y,c,U,I⟩,K⟩:=h
 have V:w.heap[r]?=some (.map y c):=by
  have:hp w r=some (.map y c):=by rw[E,I];simp[Hp.join,Hp.one]
  exact this
 have hr:r<w.heap.size:=(ZX.1 V).1;have M:w.lh r=w.alloc (.mapIter (some r) c #[] c):=by simp[World.lh,V]
 rw[M];refine⟨m.os,m.tape,m.output,?_⟩;rw[bo];obtain⟨Y,Z⟩:=zw w (.mapIter (some r) c #[] c);refine⟨Hp.join (Hp.one r (.map y c)) (Hp.one w.heap.size (.mapIter (some r) c #[] c)),b,?_,?_,⟨y,c,#[],U,oMg,rfl,?_,fun s v h=>by cases h⟩,K⟩
 ·intro k
  by_cases z:k=w.heap.size
  ·right
   have B:hp w k=none:=by rw[z];simp[hp]
   rw[E]at B
   cases O:a k with
   | none=>simpa [Hp.join,O]using B
   | some o=>simp[Hp.join,O]at B
  ·rcases J k with h | h
   ·left
    rw[I]at h;simp only[Hp.join,h,Option.none_or];simp[Hp.one,z]
   ·exact .inr h
 ·rw[Y,E,I]
  funext k
  simp only[Hp.join];by_cases z:k=w.heap.size
  ·have:Hp.one r (Obj.map y c) k=none:=by simp only[Hp.one];rw[if_neg oMg]
   simp[Hp.one,z];rw[if_neg oMg];simp
  ·have:Hp.one w.heap.size (Obj.mapIter (some r) c #[] c) k=none:=by simp[Hp.one,z]
   simp[this]
 ·have:(y.toList.filter fun e => !(#[]:Array Nat).contains e.born)=y.toList:=by rw[ZR];intro e _;simp
  rw[this];exact U.keys
class kG (S:ba)(it:Nat)(s:outParam Nat)(v:outParam Value):Prop where
 has:∀h,S.says h->∃r es clock seen e b,h r=some (.map es clock)/\h it=some (.mapIter (some r) clock seen clock)/\seen.back?=some b/\es.toList.find? (fun e=>e.born==b)=some e/\e.key=.int .u64 (s:Int)/\e.val=v
instance kG.iter {s:Nat}{v:Value}:kG (kQ it r L left (some (s,v))) it s v :=
 ⟨fun h ⟨E,c,y,U,z,B,_,O⟩=>by
   obtain⟨e,b,I,J,K,M⟩:=O s v rfl
   exact⟨r,E,c,y,e,b,by rw[B];simp[Hp.join,Hp.one],by rw[B];simp[Hp.join,Hp.one,z],I,J,K,M⟩⟩
instance kG.Lw (A B:ba){s:Nat}{v:Value} [q:kG A it s v]:kG (A*B) it s v :=
 ⟨by
   rintro h ⟨x,y,_,rfl,I,_⟩;obtain⟨r,E,c,z,e,b,J,K,M⟩:=q.has x I
   exact⟨r,E,c,z,e,b,by simp[Hp.join,J],by simp[Hp.join,K],M⟩⟩
instance kG.Jt (A B:ba){s:Nat}{v:Value} [q:kG B it s v]:kG (A*B) it s v :=
 ⟨by
   rintro h ⟨x,y,z,rfl,_,M⟩;obtain⟨r,K,c,E,e,b,I,J,O⟩:=q.has y M;refine⟨r,K,c,E,e,b,?_,?_,O⟩
   ·rcases z r with h | h
    ·simp[Hp.join,h,I]
    ·rw[h]at I;cases I
   ·rcases z it with h | h
    ·simp[Hp.join,h,J]
    ·rw[h]at J;cases J⟩
@[go_sem] theorem BA {s:Nat}{v:Value} [m:Mod w w0 S] [q:kG S it s v]:(Instr.entry (.pointer (some ⟨it,0,none⟩))).run P w=.ok (.tuple #[.int .u64 (s:Int),v]) w:=by
 obtain⟨a,b0,_,J,K,_⟩:=m.says;obtain⟨r,z,c,y,e,b,Y,U,M,O,V,Z⟩:=q.has a K
 have I:w.heap[r]?=some (.map z c):=by
  have:hp w r=some (.map z c):=by rw[J];simp[Hp.join,Y]
  exact this
 have E:w.heap[it]?=some (.mapIter (some r) c y c):=by
  have:hp w it=some (.mapIter (some r) c y c):=by rw[J];simp[Hp.join,U]
  exact this
 have B:z.find? (fun e=>e.born==b)=some e:=by rw[<-Array.find?_toList];exact O
 simp[Instr.entry,fB I,fB E,M,B,V,Z]
theorem CK {y:Array MapEntry}{c:Nat}(B:fb y c L)(p:MapEntry->Bool):((y.filter p).filter (fun e=>decide (e.born<c))).toList=y.toList.filter p/\((y.filter p).filter (fun e=>decide (e.born≥c))).toList=[]:=by
 constructor
 ·rw[Y2,Y2,ZR]
  intro e z;have:=B.lt e (ZB.1 z).1;simpa using this
 ·rw[Y2,Y2,Yr]
  intro e z;have:=B.lt e (ZB.1 z).1;simp;omega
theorem p9 (m:Mod w w0 (kQ it r L left cur*F))(ty:TypeId) :
 (left=[]/\∃w',(Instr.next (.pointer (some ⟨it,0,none⟩)) false ty).run P w=.ok (.tuple #[.bool false]) w'/\Mod w' w0 (kQ it r L [] cur*F)) \/
 ∃(i:Nat)(hi:i<left.length)(w':World),(Instr.next (.pointer (some ⟨it,0,none⟩)) false ty).run P w=.ok (.tuple #[.bool true,.int .u64 (left[i].1:Int),left[i].2]) w'/\Mod w' w0 (kQ it r L (left.eraseIdx i) (some left[i])*F):=by
 obtain⟨O,c,B,hm,aa,aI,ae,hl,hc⟩:=uw m;generalize Y:O.toList.filter (fun e => !B.contains e.born)=E at hl;have V:E.length=left.length:=by have:=congrArg List.length hl;simpa using this
 have Z:(!B.isEmpty && !O.isEmpty&&O.all (fun e=>decide (e.born≥c)))=false:=by
  cases he:O.isEmpty with
  | true=>simp
  | false =>
    have:O.all (fun e=>decide (e.born≥c))=false:=by
     rw[<-Array.all_toList]
     cases au:O.toList with
     | nil=>simp[Array.isEmpty,<-Array.length_toList,au]at he
     | cons e l =>
       have:=hm.lt e (by rw[au];simp);simp only[List.all_cons,zaj];left;simp;omega
    rw[this];simp
 obtain⟨ho,hn⟩:=CK hm (fun e => !B.contains e.born);rw[Y]at ho;have aN:((O.filter (fun e => !B.contains e.born)).filter (fun e=>decide (e.born<c)))=E.toArray:=by rw[<-ho]
 have aM:((O.filter (fun e => !B.contains e.born)).filter (fun e=>decide (e.born≥c)))=#[]:=by apply Array.ext';rw[hn]
 have gi:(getObj it).run P w=.ok (.mapIter (some r) c B c) w:=fB ae (by intros;simp);have gr:(getObj r).run P w=.ok (.map O c) w:=fB aI (by intros;simp)
 have ag:(Instr.next (.pointer (some ⟨it,0,none⟩)) false ty).run P w=((choose (.mapNext ((if E.toArray.isEmpty then #[none]else #[])++E.toArray.map some).size)).run P w).andThen fun n w' =>
  (match ((if E.toArray.isEmpty then #[none]else #[])++E.toArray.map some)[n]? with
    | some (some e)=>(do setObj it (.mapIter (some r) c (B.push e.born) c);pure (.tuple #[.bool true,e.key,e.val]):Sem Value)
    | some none=>pure (.tuple #[.bool false])
    | none=>stuck "Next: no such candidate").run P w':=by
  simp only[Instr.next,Sem.run_bind,gi,gr,Result.andThen_ok];rw[if_neg (by rw[Z];simp)];simp only[aN,aM,Array.append_empty];exact Sem.run_bind P w _ _
 cases I:left with
 | nil =>
   left;have av:E=[]:=Zo (by rw[V,I];rfl);subst av;refine⟨rfl,w,?_,by rw[<-I];exact m⟩;rw[ag];simp[Question.forced]
 | cons p0 aS =>
   right;rw[<-I];have M:0<E.length:=by rw[V,I];simp
   have ah:∃(i:Nat)(hi:i<E.length)(w1:World),w1.heap=w.heap/\w1.os=w.os/\w1.tape=w.tape/\w1.output=w.output /\
    (choose (.mapNext E.length)).run P w=.ok i w1:=by
    by_cases h1:E.length<=1
    ·exact⟨0,M,w,rfl,rfl,rfl,rfl,by simp[Question.forced,h1]⟩
    ·exact⟨(w.tape w.drawn (.mapNext E.length))%E.length,zbe _ M,w.drew,rfl,rfl,rfl,rfl,by simp[Question.forced,h1,Question.cut]⟩
   obtain⟨i,hi,w1,hh,aO,aR,aF,aG⟩:=ah;have ax:i<left.length:=by rw[<-V];exact hi
   have ai:E[i].key=.int .u64 (left[i].1:Int)/\E[i].val=left[i].2:=by
    have:=congrArg (fun l=>l[i]?) hl;simp[hi,ax]at this;exact this
   have af:E[i]∈O.toList/\B.contains E[i].born=false:=by
    have:E[i]∈O.toList.filter (fun e => !B.contains e.born):=by rw[Y];exact Zq hi
    have:=ZB.1 this;exact⟨this.1,by simpa using this.2⟩
   have aH:w1.heap[it]?=some (.mapIter (some r) c B c):=by rw[hh];exact ae
   have aQ:it<w.heap.size:=(ZX.1 ae).1;refine⟨i,ax,{w1 with heap:=w1.heap.setIfInBounds it (.mapIter (some r) c (B.push E[i].born) c)},?_,?_⟩
   ·have aD:E≠[]:=by intro e;rw[e]at M;simp at M
    have he:E.toArray.isEmpty=false:=by simp[aD]
    rw[ag,he];simp only[YH,if_false,zaz,Array.size_map,Zl,aG,Result.andThen_ok];simp[hi,run_setObj_at aH,ai]
   ·have aP:E.Pairwise (fun a b=>a.born<b.born):=by rw[<-Y];exact hm.born.sublist ZT
    have h:=m.says;rw[bo]at h;obtain⟨a,b,aK,h2,⟨U,c',K,aU,_,ha,aT,_⟩,aL⟩:=h;refine⟨aO.trans m.os,aR.trans m.tape,aF.trans m.output,?_⟩;rw[bo]
    have e1:U=O/\c'=c:=by
     have:hp w r=some (.map U c'):=by rw[h2,ha];simp[Hp.join,Hp.one]
     have h0:hp w r=some (.map O c):=aI;rw[h0]at this;injection this with this;injection this with x y;exact⟨x.symm,y.symm⟩
    have e2:K=B:=by
     have:hp w it=some (.mapIter (some r) c' K c'):=by rw[h2,ha];simp[Hp.join,Hp.one,aa]
     have h0:hp w it=some (.mapIter (some r) c B c):=ae;rw[h0]at this;injection this with this;injection this with _ _ z _;exact z.symm
    obtain⟨rfl,rfl⟩:=e1;subst e2;refine⟨Hp.join (Hp.one r (.map U c')) (Hp.one it (.mapIter (some r) c' (K.push E[i].born) c')),b,?_,?_,⟨U,c',_,hm,aa,rfl,?_,?_⟩,aL⟩
    ·intro k
     rcases aK k with h | h
     ·left
      rw[ha]at h;simp only[Hp.join]at h ⊢;by_cases hk:k=it
      ·subst hk;simp[Hp.one,aa]at h
      ·by_cases ay:k=r
       ·subst ay;simp[Hp.one]at h
       ·simp[Hp.one,hk,ay]
     ·exact .inr h
    ·funext k
     show (w1.heap.setIfInBounds it _)[k]?=_;rw[hh];by_cases hk:k=it
     ·subst hk;simp[Hp.join,Hp.one,aa,aQ]
     ·rw[YX (Ne.symm hk)]
      have:hp w k=Hp.join a b k:=by rw[h2]
      have this:w.heap[k]?=Hp.join a b k:=this;rw[this,ha];simp only[Hp.join];simp[Hp.one,hk]
    ·rw[dq,<-hl,<-dq,<-ln E i hi aP]
     generalize E[i].born=bb;rw[<-Y,Y8]
     congr 1
     apply Y4;intro e _;simp[Array.mem_push,Bool.and_comm]
    ·rintro s v ak
     have hs:left[i].1=s/\left[i].2=v:=by injection ak with h;rw[h];exact⟨rfl,rfl⟩
     refine⟨E[i],E[i].born,by simp,?_,by rw[ai.1,hs.1],by rw[ai.2,hs.2]⟩
     have aj:∀x∈U.toList,x.born=E[i].born->x=E[i]:=by
      intro x hx hb;obtain⟨n1,az,rfl⟩:=ZI.1 hx;obtain⟨n2,aB,aJ⟩:=ZI.1 af.1;rw[<-aJ]at hb ⊢;have:=Z0.1 hm.born;rcases Xv n1 n2 with h | h | h
      ·have:=this n1 n2 az aB h;omega
      ·subst h;rfl
      ·have:=this n2 n1 aB az h;omega
     cases J:U.toList.find? (fun e=>e.born==E[i].born)with
     | none =>
       have:=Y9.1 J _ af.1;simp at this
     | some x =>
       have hx:=YA J;have hb:=X4 J;rw[aj x hx (by simpa using hb)]
theorem zF (m:Mod w w0 (kQ it r L left cur*F)):Mod w w0 (gv r L*F):=by
 have h:=m.says;rw[bo]at h;obtain⟨a,b,I,Y,⟨V,c,B,hm,U,K,_,_⟩,Z⟩:=h;refine⟨m.os,m.tape,m.output,?_⟩;rw[bo];obtain⟨f,t,O,J,hf,_⟩:=Z
 have E:b it=none:=by
  rcases I it with h | h
  ·rw[K]at h;simp[Hp.join,Hp.one]at h
  ·exact h
 have M:f it=none:=by
  rw[J]at E
  cases z:f it with
  | none=>rfl
  | some o=>simp[Hp.join,z]at E
 refine⟨Hp.one r (.map V c),Hp.join b (Hp.one it (.mapIter (some r) c B c)),fun k=>?_,?_,⟨V,c,hm,rfl⟩,⟨f,Hp.join t (Hp.one it (.mapIter (some r) c B c)),fun k=>?_,?_,hf,trivial⟩⟩
 ·by_cases z:k=r
  ·right
   subst z;rcases I k with h | h
   ·rw[K]at h;simp[Hp.join,Hp.one]at h
   ·simp only[Hp.join,h,Option.none_or,Hp.one];rw[if_neg (fun e=>U e.symm)]
  ·left;simp[Hp.one,z]
 ·rw[Y,K]
  funext k
  simp only[Hp.join,Hp.one];by_cases z:k=r
  ·subst z;simp
  ·by_cases y:k=it
   ·subst y;simp[z,E]
   ·simp[z,y]
 ·rcases O k with h | h
  ·exact .inl h
  ·by_cases y:k=it
   ·left;rw[y];exact M
   ·right;simp[Hp.join,h,Hp.one,y]
 ·rw[J];exact Hp.join_assoc _ _ _
theorem nS {B:Array Oper}{rest:List Oper}{o:Oper}{a:Act}{Q:Exit->Act->World->Prop}(E:o.guard=none)(x:Operand)(M:o.op=.next x false)(O:a.eval x=.pointer (some ⟨it,0,none⟩))
 (m:Mod w w0 (kQ it r L left cur*F))
 (U:left=[]->∀z,Mod z w0 (kQ it r L [] cur*F)->wpList P B Q rest (a.put o.dst (.tuple #[.bool false])) z)
 (V:∀(i:Nat)(K:i<left.length)(z:World),Mod z w0 (kQ it r L (left.eraseIdx i) (some left[i])*F)->wpList P B Q rest (a.put o.dst (.tuple #[.bool true,.int .u64 (left[i].1:Int),left[i].2])) z):wpList P B Q (o::rest) a w :=
 wpList_plain E fun _ J=>by
  unfold Oper.wp execOp;rcases p9 (P:=P) m o.type with⟨Y,z,y,I⟩ | ⟨i,K,z,y,I⟩
  ·simp only[M,Sem.run_bind,O,y,Result.andThen_ok,Sem.run_pure]
   exact J _ _ (U Y z I)
  ·simp only[M,Sem.run_bind,O,y,Result.andThen_ok,Sem.run_pure]
   exact J _ _ (V i K z I)
end
end Go.Sl.U64
