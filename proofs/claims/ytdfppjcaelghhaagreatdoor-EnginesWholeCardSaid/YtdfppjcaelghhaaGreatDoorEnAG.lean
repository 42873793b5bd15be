/- Plain lemmas and contracts; the conditions are in each. -/
import Derived.Sort.Walk0
import Derived.Test.YtdfppjcaelghhaaGreatDoorEdAG
set_option maxHeartbeats 4000000
set_option maxRecDepth 4000
namespace Go.Sl
open Go
structure ao where
 key:ByteArray
 seq:Nat
 gone:Bool
 value:ByteArray
instance:Inhabited ao:=⟨⟨ByteArray.empty,0,false,ByteArray.empty⟩⟩
def ao.cells (x:ao):List Value:=[.string x.key,.int .u64 (x.seq:Int),.bool x.gone,.string x.value]
def tL (a b:ByteArray):Int:=if Op.bytesLess a.toList b.toList=true then -1 else if Op.bytesLess b.toList a.toList=true then 1 else 0
def mL (b:Bool):Nat:=if b then 1 else 0
def oJ (a b:Nat):Int:=if a<b then -1 else if b<a then 1 else 0
def oh (a b:ao):Int:=if tL a.key b.key≠0 then tL a.key b.key else if oJ b.seq a.seq≠0 then oJ b.seq a.seq else oJ (mL b.gone) (mL a.gone)
def kF (a b:ao):Prop:=a.key.toList<b.key.toList\/a.key=b.key/\(b.seq<a.seq\/b.seq=a.seq/\a.gone=true/\b.gone=false)
instance (a b:ao):Decidable (kF a b):=inferInstanceAs (Decidable (_\/_))
def eW (a b:ao):Prop:=a.key=b.key/\a.seq=b.seq/\a.gone=b.gone
open Go Go.Proofs.YtdfppjcaelghhaaGreatDoor
theorem eJ (a:List UInt8):¬a<a:=List.lt_irrefl a
theorem lq {a b c:List UInt8}(h:a<b)(h':b<c):a<c:=List.lt_trans h h'
theorem pc (a b:List UInt8):a<b\/a=b\/b<a:=by
 rcases Std.lt_trichotomy a b with h | h | h
 ·exact .inl h
 ·exact .inr (.inl h)
 ·exact .inr (.inr h)
theorem uB {a b:ByteArray}(h:a.toList=b.toList):a=b:=by
 rw[ByteArray.toList_eq,ByteArray.toList_eq]at h;exact Xl (YY.1 h)
theorem uC (a:ao):¬kF a a:=by
 rintro(h | ⟨_,h | ⟨_,B,z⟩⟩)
 ·exact eJ _ h
 ·omega
 ·rw[B]at z;cases z
theorem k7 {a b c:ao}(h:kF a b)(h':kF b c):kF a c:=by
 rcases h with h | ⟨h,B⟩
 ·rcases h' with h' | ⟨h',_⟩
  ·exact .inl (lq h h')
  ·rw[h']at h;exact .inl h
 ·rcases h' with h' | ⟨h',z⟩
  ·rw[<-h]at h';exact .inl h'
  ·refine .inr ⟨h.trans h',?_⟩
   rcases B with B | ⟨B,J,I⟩
   ·rcases z with z | ⟨z,_⟩
    ·exact .inl oMg
    ·exact .inl oMg
   ·rcases z with z | ⟨z,E,K⟩
    ·exact .inl oMg
    ·rw[I]at E;cases E
theorem tB (a b:ao):kF a b\/eW a b\/kF b a:=by
 rcases pc a.key.toList b.key.toList with h | h | h
 ·exact .inl (.inl h)
 ·have B:=uB h
  rcases Xv a.seq b.seq with z | z | z
  ·exact .inr (.inr (.inr ⟨B.symm,.inl z⟩))
  ·cases ha:a.gone <;> cases hb:b.gone
   ·exact .inr (.inl ⟨B,z,by rw[ha,hb]⟩)
   ·exact .inr (.inr (.inr ⟨B.symm,.inr ⟨z,hb,ha⟩⟩))
   ·exact .inl (.inr ⟨B,.inr ⟨z.symm,ha,hb⟩⟩)
   ·exact .inr (.inl ⟨B,z,by rw[ha,hb]⟩)
  ·exact .inl (.inr ⟨B,.inl z⟩)
 ·exact .inr (.inr (.inl h))
theorem tA {a b:ao}(h:kF a b):¬kF b a:=fun h'=>uC a (k7 h h')
theorem rM {a b:ao}(h:eW a b):¬kF a b:=by
 obtain⟨B,J,E⟩:=h;rintro(h | ⟨_,h | ⟨_,z,I⟩⟩)
 ·rw[B]at h;exact eJ _ h
 ·omega
 ·rw[E,I]at z;cases z
theorem MP {a b:Nat}(h:a≠b):oJ a b≠0:=by
 unfold oJ;by_cases z:a<b
 ·rw[if_pos z];decide
 ·rw[if_neg z,if_pos oMg];decide
theorem MO (a b:ByteArray):tL a b<0↔a.toList<b.toList:=by
 unfold tL;simp only[Go.Proofs.bytesLess_eq,decide_eq_true_eq];by_cases h:a.toList<b.toList
 ·simp[h]
 ·by_cases z:b.toList<a.toList <;> simp[h,z]
theorem BV (a b:ByteArray):tL a b=0↔a=b:=by
 unfold tL;simp only[Go.Proofs.bytesLess_eq,decide_eq_true_eq];rcases pc a.toList b.toList with h | h | h
 ·rw[if_pos h]
  exact⟨fun h'=>absurd h' (by decide),fun h'=>by subst h';exact absurd h (eJ _)⟩
 ·have:=uB h
  subst this;simp[eJ]
 ·rw[if_neg (fun h'=>eJ _ (lq h h')),if_pos h]
  exact⟨fun h'=>absurd h' (by decide),fun h'=>by subst h';exact absurd h (eJ _)⟩
theorem qW (a b:ao):oh a b<0↔kF a b:=by
 unfold oh kF;by_cases z:a.key=b.key
 ·have B:tL a.key b.key=0:=(BV _ _).2 z
  rw[if_neg (by simp[B])];have hn:¬a.key.toList<b.key.toList:=by rw[z];exact eJ _
  simp only[z,true_and];by_cases I:a.seq=b.seq
  ·rw[if_neg (by unfold oJ;simp[I])]
   have E:¬b.seq<a.seq:=oMg
   simp only[I,true_and];unfold oJ mL;cases a.gone <;> cases b.gone <;> simp
  ·rw[if_pos (MP (fun h=>I h.symm))]
   unfold oJ;by_cases E:b.seq<a.seq
   ·simp[E]
   ·have J:a.seq<b.seq:=oMg
    have K:¬b.seq=a.seq:=oMg
    simp[E,J,K]
 ·have B:tL a.key b.key≠0:=fun h=>z ((BV _ _).1 h)
  rw[if_pos B,MO];simp[z]
def fc (l:List ao):Prop:=l.Pairwise kF
instance (l:List ao):Decidable (fc l):=inferInstanceAs (Decidable (List.Pairwise _ _))
def Gw (a b:ao):Bool:=decide (¬kF b a)
theorem JM (a b:ao):(Gw a b||Gw b a)=true:=by
 unfold Gw;by_cases h:kF b a
 ·have:=tA h
  simp[this]
 ·simp[h]
theorem Ck (a b c:ao)(I:Gw a b=true)(E:Gw b c=true):Gw a c=true:=by
 unfold Gw at *;simp only[decide_eq_true_eq]at *;intro h;rcases tB a b with z | z | z
 ·exact E (k7 h z)
 ·refine E ?_
  rcases tB c b with B | B | B
  ·exact B
  ·exfalso
   have:eW c a:=⟨B.1.trans z.1.symm,B.2.1.trans z.2.1.symm,B.2.2.trans z.2.2.symm⟩;exact rM this h
  ·exfalso
   have J:kF b a:=k7 B h;have:eW b a:=⟨z.1.symm,z.2.1.symm,z.2.2.symm⟩;exact rM this J
 ·exact absurd z I
def ij (l:List ao):List ao:=l.mergeSort Gw
theorem jk (l:List ao):(ij l).Perm l:=YI l Gw
theorem E3 (l:List ao):(ij l).Pairwise fun a b=>Gw a b=true:=List.pairwise_mergeSort Ck JM l
theorem EN {l z:List ao}(hp:l.Perm z)(h:fc l)(h':fc z):l=z:=by
 refine XX (le:=kF) (fun a b _ _ B E=>absurd E (tA B)) h h' hp
theorem Ah {l:List ao}(h:l.Pairwise fun a b=>Gw a b=true)(hn:l.Pairwise fun a b=>¬eW a b):fc l:=by
 induction l with
 | nil=>exact List.Pairwise.nil
 | cons a l I =>
   have B:=Z5.1 h;have E:=Z5.1 hn;refine Z5.2 ⟨fun b hb=>?_,I B.2 E.2⟩;rcases tB a b with z | z | z
   ·exact z
   ·exact absurd z (E.1 b hb)
   ·have:=B.1 b hb
    unfold Gw at this;simp only[decide_eq_true_eq]at this;exact absurd z this
theorem qa {α:Type}{p:α->Bool}:∀{l:List α}{x:α},x∈l.takeWhile p->p x=true
 | [],_,h=>by cases h
 | y::l,x,h=>by
   by_cases z:p y=true
   ·rw[List.takeWhile_cons_of_pos z]at h
    rcases Zu.1 h with rfl | h
    ·exact z
    ·exact qa h
   ·rw[List.takeWhile_cons_of_neg z]at h;cases h
def gE:List ao->List (List ao)
 | []=>[]
 | x::l=>(x::l.takeWhile fun y=>decide (y.key=x.key))::gE (l.dropWhile fun y=>decide (y.key=x.key))
termination_by l=>l.length
decreasing_by
 have:=(XE (l:=l) fun y=>decide (y.key=x.key)).length_le;simp only[List.length_cons];omega
abbrev fI:=ByteArray×ByteArray
def kA (s:Nat)(z:List ao):List fI:=match z.find? fun x=>decide (x.seq<=s)with
 | some x=>if x.gone then []else [(x.key,x.value)]
 | none=>[]
def qG (l:List ao)(s:Nat):List fI:=(gE l).flatMap (kA s)
structure o3 (C:List ao)(s:Nat)(k:ByteArray)(x:ao):Prop where
 mem:x∈C
 key:x.key=k
 upto:x.seq<=s
 max:∀y∈C,y.key=k->y.seq<=s->y.seq<=x.seq
def yi (C:List ao):Prop:=∀x∈C,∀y∈C,x.key=y.key->x.seq=y.seq->x=y
def nh (C:List ao)(s:Nat)(k v:ByteArray):Prop:=∃x,o3 C s k x/\x.gone=false/\x.value=v
theorem kN:∀l:List ao,(gE l).flatten=l:=by
 intro l
 induction l using gE.induct with
 | case1=>simp[gE]
 | case2 x l ih=>rw[gE,List.flatten_cons,ih,List.cons_append,zah]
theorem nQ {l:List ao}(h:fc l):(gE l).Pairwise (fun a b=>∀x∈a,∀y∈b,x.key.toList<y.key.toList)/\∀r∈gE l,r≠[]/\fc r/\∀x∈r,∀y∈r,x.key=y.key:=by
 induction l using gE.induct with
 | case1=>simp[gE]
 | case2 x l ih =>
   rw[gE];have Y:=Z5.1 h;have hd:fc (l.dropWhile fun y=>decide (y.key=x.key)):=Y.2.sublist (XE _)
   have ht:∀y∈l.takeWhile (fun y=>decide (y.key=x.key)),y.key=x.key:=fun y K=>by
    have:=qa K;simpa using this
   obtain⟨i1,i2⟩:=ih hd
   have I:∀y∈(x::l.takeWhile fun y=>decide (y.key=x.key)),y.key=x.key:=fun y K=>by
    rcases Zu.1 K with rfl | K
    ·rfl
    ·exact ht y K
   refine⟨Z5.2 ⟨fun r hr a ha b hb=>?_,i1⟩,fun r hr=>?_⟩
   ·rw[I a ha]
    have E:b∈l.dropWhile fun y=>decide (y.key=x.key):=by
     rw[<-kN (l.dropWhile fun y=>decide (y.key=x.key))];exact Y1.2 ⟨r,hr,hb⟩
    cases B:l.dropWhile (fun y=>decide (y.key=x.key))with
    | nil=>rw[B]at E;cases E
    | cons z m =>
      have Z:¬z.key=x.key:=by
       have:=List.head_dropWhile_not (fun y:ao=>decide (y.key=x.key)) (by rw[B];simp);simp only[B,List.head_cons,decide_eq_false_iff_not]at this;exact this
      have V:z∈l:=(XE _).subset (by rw[B];exact Zj ..)
      have J:x.key.toList<z.key.toList:=by
       rcases Y.1 z V with M | ⟨M,_⟩
       ·exact M
       ·exact absurd M.symm Z
      rw[B]at E hd;rcases Zu.1 E with rfl | U
      ·exact J
      ·rcases (Z5.1 hd).1 b U with O | ⟨O,_⟩
       ·exact lq J O
       ·rw[<-O];exact J
   ·rcases Zu.1 hr with rfl | hr
    ·refine⟨by simp,?_,fun a ha b hb=>(I a ha).trans (I b hb).symm⟩
     exact h.sublist (List.Sublist.cons_cons x (List.takeWhile_sublist _))
    ·exact i2 r hr
theorem Mo {l:List ao}(h:fc l):l.Pairwise fun a b=>¬eW a b:=h.imp fun h' z=>rM z h'
theorem uI {r:List ao}(h:fc r)(K:∀x∈r,∀y∈r,x.key=y.key){s:Nat}{x:ao}(B:r.find? (fun x=>decide (x.seq<=s))=some x):o3 r s x.key x:=by
 have O:=YA B;have U:x.seq<=s:=by have:=X4 B;simpa using this
 refine⟨O,rfl,U,fun y E _ V=>?_⟩
 induction r with
 | nil=>cases E
 | cons z r Y =>
   have J:=Z5.1 h;by_cases M:z.seq<=s
   ·rw[List.find?_cons_of_pos (by simpa using M)]at B
    injection B with B;subst B;rcases Zu.1 E with rfl | E
    ·exact Zm _
    ·rcases J.1 y E with I | ⟨_,I | ⟨I,_⟩⟩
     ·rw[K z (Zj ..) y (Zh _ E)]at I
      exact absurd I (eJ _)
     ·omega
     ·omega
   ·rw[yL (by simpa using M)]at B
    rcases Zu.1 E with rfl | E
    ·omega
    ·exact Y J.2 (fun a ha b hb=>K a (Zh _ ha) b (Zh _ hb)) B (YA B) E
theorem Mw {l:List ao}(h:fc l)(ho:yi l)(s:Nat)(k v:ByteArray):(k,v)∈qG l s↔nh l s k v:=by
 obtain⟨hp,hr⟩:=nQ h;have z:=kN l;unfold qG nh;rw[YP];constructor
 ·rintro⟨r,B,M⟩
  obtain⟨_,h2,Z⟩:=hr r B;unfold kA at M
  split at M
  ·rename_i x J
   split at M
   ·cases M
   ·rename_i hg
    rw[ZE]at M;injection M with I ae;have hn:=uI h2 Z J;refine⟨x,⟨by rw[<-z];exact Y1.2 ⟨r,B,hn.mem⟩,I.symm,hn.upto,fun y K U ag=>?_⟩,by simpa using hg,ae.symm⟩;rw[<-z]at K;obtain⟨r',aa,V⟩:=Y1.1 K
    have:r'=r:=by
     obtain⟨i,hi,rfl⟩:=ZI.1 B;obtain⟨j,hj,rfl⟩:=ZI.1 aa;rcases Xv i j with E | E | E
     ·have:=Z0.1 hp i j hi hj E x hn.mem y V
      rw[U,I]at this;exact absurd this (eJ _)
     ·subst E;rfl
     ·have:=Z0.1 hp j i hj hi E y V x hn.mem
      rw[U,I]at this;exact absurd this (eJ _)
    subst this;exact hn.max y V (U.trans I) ag
  ·cases M
 ·rintro⟨x,J,hg,rfl⟩
  have hm:=J.mem;rw[<-z]at hm;obtain⟨r,B,O⟩:=Y1.1 hm;obtain⟨_,h2,Z⟩:=hr r B;refine⟨r,B,?_⟩;unfold kA
  cases hf:r.find? (fun x=>decide (x.seq<=s))with
  | none =>
    have:=Y9.1 hf x O;simp only[decide_eq_true_eq]at this;exact absurd J.upto this
  | some y =>
    have K:=uI h2 Z hf;have Y:y.key=x.key:=Z y K.mem x O;have h4:=K.max x O Y.symm J.upto;have h5:=J.max y (by rw[<-z];exact Y1.2 ⟨r,B,K.mem⟩) (Y.trans J.key) K.upto;have af:y=x:=ho y (by rw[<-z];exact Y1.2 ⟨r,B,K.mem⟩) x J.mem Y (Nat.le_antisymm h5 h4);subst af;simp only[hg,YH,if_false,ZE];rw[J.key]
abbrev lJ:=ao×(Nat->Option Nat)
abbrev jA:=Nat->Option lJ
def kM:Option Nat->Value
 | none=>.pointer none
 | some g=>.pointer (some ⟨g,0,none⟩)
def lJ.cells (c:lJ):List Value:=c.1.cells++[kM (c.2 0),kM (c.2 1),kM (c.2 2),kM (c.2 3),kM (c.2 4),kM (c.2 5),kM (c.2 6),kM (c.2 7)]
def jA.put (f:jA)(a:Nat)(c:lJ):jA:=fun k=>if k=a then some c else f k
def lJ.next (c:lJ)(k:Nat)(b:Option Nat):lJ:=(c.1,fun j=>if j=k then b else c.2 j)
structure nt where
 ad:Nat
 x:ao
 h:Nat
def sn (f:jA)(k:Nat):Nat->List Nat->Prop
 | a,[]=>∃c,f a=some c/\c.2 k=none
 | a,b::l=>(∃c,f a=some c/\c.2 k=some b)/\sn f k b l
def CG:ao:=⟨ByteArray.empty,0,false,ByteArray.empty⟩
def p5 (k:Nat)(T:List nt):List Nat:=(T.filter fun t=>decide (k<t.h)).map (·.ad)
structure TabBase (f:jA)(hd:Nat)(T:List nt):Prop where
 head:∃n,f hd=some (CG,n)
 ent:∀t∈T,∃n,f t.ad=some (t.x,n)
 fR:∀t∈T,1<=t.h/\t.h<=8
 nodup:(hd::T.map (·.ad)).Nodup
 rise:fc (T.map (·.x))
structure IT (f:jA)(hd:Nat)(T:List nt):Prop extends TabBase f hd T where
 links:∀k,k<8->sn f k hd (p5 k T)
theorem lr (k:Nat)(A B:List nt):p5 k (A++B)=p5 k A++p5 k B:=by simp[p5]
theorem sQ (k:Nat)(t:nt)(B:List nt)(h:k<t.h):p5 k (t::B)=t.ad::p5 k B:=by simp[p5,h]
theorem oO (k:Nat)(t:nt)(B:List nt)(h:¬k<t.h):p5 k (t::B)=p5 k B:=by simp[p5,h]
theorem Iz {k:Nat}{T:List nt}{a:Nat}(h:a∈p5 k T):a∈T.map (·.ad):=by
 unfold p5 at h;obtain⟨t,ht,rfl⟩:=Zz.1 h;exact ZC (ZB.1 ht).1
theorem wN {f:jA}{k:Nat}:∀(l:List Nat){a b:Nat}{r:List Nat},sn f k a (l++b::r)->sn f k b r
 | [],_,_,_,h=>h.2
 | _::l,_,_,_,h=>wN l h.2
inductive yI (hd:Nat)(T:List nt)(a:Nat)(h:Nat)(R:List nt)(m:ao):Prop where
 | head:a=hd->h=8->R=T->yI hd T a h R m
 | tow (P:List nt) (t:nt):T=P++t::R->a=t.ad->h=t.h->kF t.x m->yI hd T a h R m
theorem yI.links {f:jA}{hd:Nat}{T:List nt}{a h:Nat}{R:List nt}{m:ao}(s:yI hd T a h R m)(J:IT f hd T){k:Nat}(K:k<h)(z:k<8):sn f k a (p5 k R):=by
 cases s with
 | head B _ E=>rw[B,E];exact J.links k z
 | tow P t B E e3 _ =>
   have I:=J.links k z;rw[B,lr,sQ _ _ _ (by rw[<-e3];exact K)]at I;rw[E];exact wN _ I
theorem yI.isSome {f:jA}{hd:Nat}{T:List nt}{a h:Nat}{R:List nt}{m:ao}(s:yI hd T a h R m)(B:TabBase f hd T):∃c,f a=some c:=by
 cases s with
 | head z _ _=>obtain⟨n,hn⟩:=B.head;exact⟨_,by rw[z];exact hn⟩
 | tow P t z e2 _ _ =>
   obtain⟨n,hn⟩:=B.ent t (by rw[z];simp);exact⟨_,by rw[e2];exact hn⟩
theorem JX {k:Nat}:∀{R:List nt}{b:Nat}{l:List Nat},p5 k R=b::l->∃P t z,R=P++t::z/\t.ad=b/\k<t.h/\p5 k z=l/\p5 k P=[]:=by
 intro R
 induction R with
 | nil=>intro b l h;cases h
 | cons t R O =>
   intro b l h;by_cases B:k<t.h
   ·rw[sQ _ _ _ B]at h
    injection h with E I;exact⟨[],t,R,rfl,E,B,I,rfl⟩
   ·rw[oO _ _ _ B]at h
    obtain⟨P,U,z,E,I,J,K,M⟩:=O h;exact⟨t::P,U,z,by rw[E];rfl,I,J,K,by rw[oO _ _ _ B];exact M⟩
structure lk (hd:Nat)(T:List nt)(m:ao)(k a:Nat):Prop where
 ex:∃h R,yI hd T a h R m/\k<h/\∀t∈R,k<t.h->¬kF t.x m
theorem EM {T P R:List nt}{t:nt}(h:fc (T.map (·.x)))(e:T=P++t::R){m:ao}(hn:¬kF t.x m):∀u∈R,¬kF u.x m:=by
 intro u I E;rw[e,ZP,Zy]at h;have z:=(Yf.1 h).2.1;have B:=(Z5.1 z).1 u.x (ZC I);exact hn (k7 B E)
theorem yI.right {f:jA}{hd:Nat}{T:List nt}{a h:Nat}{R:List nt}{m:ao}(s:yI hd T a h R m)(Z:IT f hd T){k b:Nat}{l:List Nat}(V:p5 k R=b::l) :
 ∃P t B,R=P++t::B/\t.ad=b/\k<t.h/\t∈T/\B.length<R.length/\(kF t.x m->yI hd T b t.h B m)/\(¬kF t.x m->∀u∈R,k<u.h->¬kF u.x m):=by
 obtain⟨P,t,B,E,M,O,h4,U⟩:=JX V
 have Y:∃Q,T=Q++t::B:=by
  cases s with
  | head _ _ e=>exact⟨P,by rw[<-e];exact E⟩
  | tow P' t' e _ _ _=>exact⟨P'++t'::P,by rw[e,E];simp⟩
 obtain⟨Q,I⟩:=Y;refine⟨P,t,B,E,M,O,by rw[I];simp,by rw[E];simp;omega,fun K=>.tow Q t I M.symm rfl K,fun hn u z J=>?_⟩;rw[E]at z;rcases ZA.1 z with z | z
 ·exfalso
  have:u.ad∈p5 k P:=by
   unfold p5;exact ZC (ZB.2 ⟨z,by simpa using J⟩)
  rw[U]at this;cases this
 ·rcases Zu.1 z with rfl | z
  ·exact hn
  ·exact EM Z.rise I hn u z
def oN (x:ao)(l:List ao):List ao:=(l.filter fun y=>decide (kF y x))++x::(l.filter fun y => !decide (kF y x))
def zD (t:nt)(T:List nt):List nt:=(T.filter fun u=>decide (kF u.x t.x))++t::(T.filter fun u => !decide (kF u.x t.x))
theorem zE (t:nt)(T:List nt):(zD t T).map (·.x)=oN t.x (T.map (·.x)):=by
 unfold zD oN;simp[zav,Function.comp_def]
theorem nD (x:ao)(l:List ao):(oN x l).Perm (x::l):=by
 unfold oN;refine zao.trans (List.Perm.cons _ ?_);exact X6 (fun y=>decide (kF y x)) l
theorem Cf {x:ao}{l:List ao}(h:fc l)(hn:∀y∈l,¬eW y x):fc (oN x l):=by
 unfold oN fc;refine Yf.2 ⟨h.sublist ZT,Z5.2 ⟨fun y K=>?_,h.sublist ZT⟩,fun a ha b hb=>?_⟩
 ·obtain⟨J,E⟩:=ZB.1 K
  rcases tB x y with z | z | z
  ·exact z
  ·exact absurd ⟨z.1.symm,z.2.1.symm,z.2.2.symm⟩ (hn y J)
  ·simp[z]at E
 ·obtain⟨J,E⟩:=ZB.1 ha
  have E:kF a x:=by simpa using E
  rcases Zu.1 hb with rfl | hb
  ·exact E
  ·obtain⟨z,I⟩:=ZB.1 hb
   have I:¬kF b x:=by simpa using I
   rcases tB x b with B | B | B
   ·exact k7 E B
   ·exact absurd ⟨B.1.symm,B.2.1.symm,B.2.2.symm⟩ (hn b z)
   ·exact absurd B I
theorem pd {f E:jA}{k:Nat}:∀{l:List Nat}{a:Nat},sn f k a l->(∀b∈a::l,∀c,f b=some c->∃c',E b=some c'/\c'.2 k=c.2 k)->sn E k a l
 | [],a,⟨c,h1,h2⟩,hs=>by
   obtain⟨c',z,B⟩:=hs a (Zj ..) c h1;exact⟨c',z,B.trans h2⟩
 | b::l,a,⟨⟨c,h1,h2⟩,h⟩,hs=>by
   obtain⟨c',z,B⟩:=hs a (Zj ..) c h1;exact⟨⟨c',z,B.trans h2⟩,pd h fun d hd=>hs d (Zh _ hd)⟩
theorem vI {f M:jA}{k n:Nat}:∀{l1 J:List Nat}{a:Nat},sn f k a (l1++J)->(a::(l1++J)).Nodup->(n ∉ a::(l1++J)) ->
 (∃c',M ((a::l1).getLast (by simp))=some c'/\c'.2 k=some n)->(∃c c',f ((a::l1).getLast (by simp))=some c/\M n=some c'/\c'.2 k=c.2 k) ->
 (∀b∈a::(l1++J),b≠(a::l1).getLast (by simp)->∀c,f b=some c->∃c',M b=some c'/\c'.2 k=c.2 k)->sn M k a (l1++n::J)
 | [],J,a,h,hd,hn,⟨c1,p1,p2⟩,⟨c2,c3,q1,q2,q3⟩,hs=>by
   simp only[List.getLast_singleton,List.nil_append]at *;refine⟨⟨c1,p1,p2⟩,?_⟩;have I:=Yq.1 hd
   cases J with
   | nil =>
     obtain⟨c,B,K⟩:=h;rw[q1]at B;injection B with B;subst B;exact⟨c3,q2,q3.trans K⟩
   | cons b J =>
     obtain⟨⟨c,B,K⟩,O⟩:=h;rw[q1]at B;injection B with B;subst B;refine⟨⟨c3,q2,q3.trans K⟩,pd O fun d E=>hs d (Zh _ E) ?_⟩;rintro rfl;exact I.1 E
 | b::l1,J,a,h,hd,hn,hp,hq,hs=>by
   simp only[List.cons_append]at *;obtain⟨⟨c,B,K⟩,O⟩:=h;have I:=Yq.1 hd;have z:(a::b::l1).getLast (by simp)=(b::l1).getLast (by simp):=List.getLast_cons (by simp)
   have V:a≠(b::l1).getLast (by simp):=by
    intro e;have:(b::l1).getLast (by simp)∈b::l1:=List.getLast_mem _;rw[<-e]at this;refine I.1 ?_;rcases Zu.1 this with h | h
    ·rw[h];exact Zj ..
    ·exact Zh _ (ZN _ h)
   obtain⟨c',Y,Z⟩:=hs a (Zj ..) (by rw[z];exact V) c B;refine⟨⟨c',Y,Z.trans K⟩,vI O I.2 (fun h=>hn (Zh _ h)) (by rw[<-z];exact hp) (by rw[<-z];exact hq) fun d E U=>hs d (Zh _ E) (by rw[z];exact U)⟩
structure ir (f:jA)(hd:Nat)(T:List nt)(t:nt)(i:Nat):Prop extends TabBase f hd T where
 fresh:t.ad ∉ hd::T.map (·.ad)
 new:∃n,f t.ad=some (t.x,n)/\∀k,i<=k->n k=none
 done:∀k,k<i->k<8->sn f k hd (p5 k (zD t T))
 links:∀k,i<=k->k<8->sn f k hd (p5 k T)
theorem yf {P R:List nt}{t:nt}{m:ao}(h:fc ((P++t::R).map (·.x)))(ht:kF t.x m):(P++t::R).filter (fun u=>decide (kF u.x m))=P++t::R.filter (fun u=>decide (kF u.x m)):=by
 rw[Yp,ZZ (by simpa using ht)]
 congr 1
 refine ZR.2 fun u z=>?_;rw[ZP,Zy]at h;have:=(Yf.1 h).2.2 u.x (ZC z) t.x (Zj ..);simpa using k7 this ht
theorem lk.last {f:jA}{hd:Nat}{T:List nt}{m:ao}{k a:Nat}(h:lk hd T m k a)(Y:TabBase f hd T):(hd::p5 k (T.filter fun u=>decide (kF u.x m))).getLast (by simp)=a:=by
 obtain⟨Z,R,s,U,O⟩:=h.ex
 have z:p5 k (R.filter fun u=>decide (kF u.x m))=[]:=by
  unfold p5;rw[List.map_eq_nil_iff,Y8,Yr];intro u V;simp only[Yg,decide_eq_true_eq,not_and];intro K B;exact O u V K B
 cases s with
 | head I M J =>
   subst J
   have B:∀(l:List Nat)(E:hd::l≠[]),l=[]->(hd::l).getLast E=hd:=by
    intro l E e;subst e;rfl
   rw[I];exact B _ _ z
 | tow P t I M J e4 =>
   have K:p5 k (T.filter fun u=>decide (kF u.x m))=p5 k P++[t.ad]:=by
    rw[I,yf (by rw[<-I];exact Y.rise) e4,lr,sQ _ _ _ (by rw[<-J];exact U),z]
   have B:∀(l:List Nat)(E:hd::l≠[]),l=p5 k P++[t.ad]->(hd::l).getLast E=t.ad:=by
    intro l E e;subst e;rw[List.getLast_cons (by simp)];simp
   rw[M];exact B _ _ K
theorem lB {T:List nt}{m:ao}(h:fc (T.map (·.x))):T=T.filter (fun u=>decide (kF u.x m))++T.filter (fun u => !decide (kF u.x m)):=by
 induction T with
 | nil=>rfl
 | cons t T I =>
   have E:=Z5.1 h;by_cases ht:kF t.x m
   ·rw[ZZ (by simpa using ht),ZQ (by simpa using ht),List.cons_append,<-I E.2]
   ·have hn:T.filter (fun u=>decide (kF u.x m))=[]:=by
     rw[Yr];intro u B;simp only[decide_eq_true_eq];intro z;exact ht (k7 (E.1 u.x (ZC B)) z)
    rw[ZQ (by simpa using ht),ZZ (by simpa using ht),hn,List.nil_append]
    congr 1
    rw[Yr]at hn;exact(ZR.2 fun u B=>by have:=hn u B;simpa using this).symm
theorem ir.step {f:jA}{hd:Nat}{T:List nt}{t:nt}{i a:Nat}{J cn:lJ}(p:ir f hd T t i)(hi:i<t.h)(au:i<8)(hl:lk hd T t.x i a)(ha:f a=some J)(hn:f t.ad=some cn) :
 ir ((f.put t.ad (cn.next i (J.2 i))).put a (J.next i (some t.ad))) hd T t (i+1):=by
 have av:=hl.ex;have ae:=hl.last p.toTabBase
 have aj:a≠t.ad:=by
  obtain⟨hh,R,s,_,_⟩:=av;intro e
  cases s with
  | head e1 _ _=>exact p.fresh (by rw[<-e,e1];exact Zj ..)
  | tow P u e1 e2 _ _=>exact p.fresh (by rw[<-e,e2];exact Zh _ (ZC (by rw[e1];simp)))
 have z:∀b,b≠t.ad->∀c,f b=some c->∃c',((f.put t.ad (cn.next i (J.2 i))).put a (J.next i (some t.ad))) b=some c'/\c'.1=c.1/\∀k,k≠i->c'.2 k=c.2 k:=by
  intro b hb c E;by_cases ag:b=a
  ·subst ag
   rw[ha]at E;injection E with E;subst E;exact⟨J.next i (some t.ad),by simp[jA.put],rfl,fun k hk=>by simp[lJ.next,hk]⟩
  ·exact⟨c,by simp[jA.put,ag,hb,E],rfl,fun k _=>rfl⟩
 have B:∀b∈hd::T.map (·.ad),b≠t.ad:=fun b hb e=>p.fresh (by rw[<-e];exact hb)
 have K:((f.put t.ad (cn.next i (J.2 i))).put a (J.next i (some t.ad))) t.ad=some (cn.next i (J.2 i)):=by
  simp[jA.put,Ne.symm aj]
 refine⟨⟨?_,?_,p.fR,p.nodup,p.rise⟩,p.fresh,?_,?_,?_⟩
 ·obtain⟨n,I⟩:=p.head
  obtain⟨c',O,Y,_⟩:=z hd (B _ (Zj ..)) _ I;exact⟨c'.2,by rw[O];exact congrArg some (Prod.ext Y rfl)⟩
 ·intro u hu
  obtain⟨n,I⟩:=p.ent u hu;obtain⟨c',O,Y,_⟩:=z u.ad (B _ (Zh _ (ZC hu))) _ I;exact⟨c'.2,by rw[O];exact congrArg some (Prod.ext Y rfl)⟩
 ·obtain⟨n,I,O⟩:=p.new
  rw[hn]at I;injection I with I;subst I;refine⟨_,K,fun k hk=>?_⟩;have:k≠i:=oMg
  simp[this];exact O k oMg
 ·intro k hk Z
  have ai:p5 k (zD t T)=if k<t.h then p5 k (T.filter fun u=>decide (kF u.x t.x))++t.ad::p5 k (T.filter fun u => !decide (kF u.x t.x))else p5 k T:=by
   unfold zD;rw[lr];by_cases V:k<t.h
   ·rw[if_pos V,sQ _ _ _ V]
   ·rw[if_neg V,oO _ _ _ V,<-lr,<-lB p.rise]
  have af:p5 k T=p5 k (T.filter fun u=>decide (kF u.x t.x))++p5 k (T.filter fun u => !decide (kF u.x t.x)):=by
   rw[<-lr,<-lB p.rise]
  by_cases aa:k<i
  ·have I:=p.done k aa Z
   refine pd I fun b hb c E=>?_;by_cases U:b=t.ad
   ·subst U
    rw[hn]at E;injection E with E;subst E
    exact⟨_,K,by
               have:k≠i:=oMg
               simp[lJ.next,this]⟩
   ·obtain⟨c',O,_,Y⟩:=z b U c E
    exact⟨c',O,Y k oMg⟩
  ·have aa:k=i:=oMg
   subst aa;rw[ai,if_pos hi];have I:=p.links k (Zm _) au;rw[af]at I
   have M:(hd::(p5 k (T.filter fun u=>decide (kF u.x t.x))++p5 k (T.filter fun u => !decide (kF u.x t.x)))).Sublist (hd::T.map (·.ad)):=by
    rw[<-af];exact List.Sublist.cons_cons _ (ZT.map _)
   refine vI I (p.nodup.sublist M) (fun h=>p.fresh (M.subset h)) ?_ ?_ ?_
   ·rw[ae]
    exact⟨J.next k (some t.ad),by simp[jA.put],by simp[lJ.next]⟩
   ·rw[ae]
    exact⟨J,_,ha,K,by simp[lJ.next]⟩
   ·intro b hb ah c E
    rw[ae]at ah;have U:=B b (M.subset hb);exact⟨c,by simp[jA.put,ah,U,E],rfl⟩
 ·intro k hk Z
  refine pd (p.links k oMg Z) fun b hb c E=>?_
  have ak:b∈hd::T.map (·.ad):=by
   rcases Zu.1 hb with rfl | hb
   ·exact Zj ..
   ·exact Zh _ (Iz hb)
  obtain⟨c',O,_,Y⟩:=z b (B b ak) c E;exact⟨c',O,Y k oMg⟩
theorem ir.start {f:jA}{hd:Nat}{T:List nt}(E:IT f hd T){t:nt}(M:f t.ad=none):ir (f.put t.ad (t.x,fun _=>none)) hd T t 0:=by
 have z:t.ad ∉ hd::T.map (·.ad):=by
  intro h;rcases Zu.1 h with h | h
  ·obtain⟨n,B⟩:=E.head
   rw[h,B]at M;cases M
  ·obtain⟨u,J,e⟩:=Zz.1 h
   obtain⟨n,B⟩:=E.ent u J;rw[e,M]at B;cases B
 have I:∀b∈hd::T.map (·.ad),b≠t.ad:=fun b hb e=>z (by rw[<-e];exact hb);refine⟨⟨?_,?_,E.fR,E.nodup,E.rise⟩,z,⟨_,by simp[jA.put],fun _ _=>rfl⟩,fun k V=>absurd V oMg,fun k _ O=>?_⟩
 ·obtain⟨n,B⟩:=E.head
  exact⟨n,by simp[jA.put,I hd (Zj ..),B]⟩
 ·intro u J
  obtain⟨n,B⟩:=E.ent u J;exact⟨n,by simp[jA.put,I u.ad (Zh _ (ZC J)),B]⟩
 ·refine pd (E.links k O) fun b hb c U=>?_
  have K:b∈hd::T.map (·.ad):=by
   rcases Zu.1 hb with rfl | hb
   ·exact Zj ..
   ·exact Zh _ (Iz hb)
  exact⟨c,by simp[jA.put,I b K,U],rfl⟩
theorem ir.fin {f:jA}{hd:Nat}{T:List nt}{t:nt}(p:ir f hd T t t.h)(K:1<=t.h)(M:t.h<=8)(O:∀u∈T,¬eW u.x t.x):IT f hd (zD t T):=by
 have z:(zD t T).Perm (t::T):=by
  unfold zD;refine zao.trans (List.Perm.cons _ ?_);exact X6 (fun u:nt=>decide (kF u.x t.x)) T
 refine⟨⟨p.head,fun u B=>?_,fun u B=>?_,?_,?_⟩,fun k E=>?_⟩
 ·rcases Zu.1 (z.mem_iff.1 B)with rfl | B
  ·obtain⟨n,I,_⟩:=p.new
   exact⟨n,I⟩
  ·exact p.ent u B
 ·rcases Zu.1 (z.mem_iff.1 B)with rfl | B
  ·exact⟨K,M⟩
  ·exact p.fR u B
 ·have I:(hd::(zD t T).map (·.ad)).Perm (t.ad::(hd::T.map (·.ad))):=((z.map (·.ad)).cons hd).trans (List.Perm.swap _ _ _)
  exact I.nodup_iff.2 (Yq.2 ⟨p.fresh,p.nodup⟩)
 ·rw[zE]
  refine Cf p.rise fun y U=>?_;obtain⟨u,B,rfl⟩:=Zz.1 U;exact O u B
 ·by_cases J:k<t.h
  ·exact p.done k J E
  ·have e:p5 k (zD t T)=p5 k T:=by
    unfold zD;rw[lr,oO _ _ _ J,<-lr,<-lB p.rise]
   rw[e];exact p.links k oMg E
structure cQ where
 A:Option Addr
 c:Nat
 l:List ao
instance:Inhabited cQ:=⟨⟨none,0,[]⟩⟩
def cQ.val (r:cQ):Value:=.slice r.A r.l.length r.c
def cQ.top (r:cQ):ao:=r.l.headD default
def vM (a b:cQ):Prop:=kF a.top b.top
instance (a b:cQ):Decidable (vM a b):=inferInstanceAs (Decidable (kF _ _))
theorem zS (a:cQ):¬vM a a:=uC _
theorem JW {a b:cQ}(h:vM a b):¬vM b a:=tA h
theorem vL {a b c:ao}(z:¬kF b a)(B:¬kF c b):¬kF c a:=by
 have h:=Ck a b c (by unfold Gw;simpa using z) (by unfold Gw;simpa using B);unfold Gw at h;simpa using h
theorem JO {a b c:cQ}(z:¬vM b a)(B:¬vM c b):¬vM c a:=vL z B
def jP (i c:Nat):Prop:=c=2*i+1\/c=2*i+2
def M9 (h:List cQ)(i:Nat):Prop:=∀c (_:jP i c) (hc:c<h.length) (hi:i<h.length),¬vM h[c] h[i]
def ft (h:List cQ)(i:Nat):Prop:=∀j,i<=j->M9 h j
structure lf (h:List cQ)(i at_:Nat):Prop where
 ok:∀j,i<=j->j≠at_->M9 h j
 up:∀p c,i<=p->jP p at_->jP at_ c->∀(hc:c<h.length)(hp:p<h.length),¬vM h[c] h[p]
theorem lf.done {h:List cQ}{i a:Nat}(b:lf h i a)(ha:M9 h a):ft h i:=fun j z=>by
 by_cases e:j=a
 ·rw[e];exact ha
 ·exact b.ok j z e
def ow (h:List cQ)(i j:Nat):List cQ:=(h.set i (h.getD j default)).set j (h.getD i default)
theorem oX (h:List cQ)(i j:Nat):(ow h i j).length=h.length:=by simp[ow]
theorem jZ {h:List cQ}{i:Nat}(z:i<h.length):h.getD i default=h[i]:=by
 rw[Zw,Zg z];rfl
theorem qJ {h:List cQ}{i j k:Nat}(E:i<h.length)(I:j<h.length)(J:k<(ow h i j).length) :
 (ow h i j)[k]=if k=j then h[i]else if k=i then h[j]else h[k]'(by rwa [oX]at J):=by
 simp only[ow];rw[Xy];by_cases z:j=k
 ·rw[if_pos z,if_pos z.symm,jZ E]
 ·rw[if_neg z,if_neg (fun e=>z e.symm),Xy]
  by_cases B:i=k
  ·rw[if_pos B,if_pos B.symm,jZ I]
  ·rw[if_neg B,if_neg (fun e=>B e.symm)]
theorem H8 {h:List cQ}{i j:Nat}(z:i<h.length)(B:j<h.length):(ow h i j).Perm h:=by
 unfold ow;rw[jZ z,jZ B];exact List.set_set_perm z B
theorem lf.swap {h:List cQ}{i a k:Nat}(b:lf h i a)(av:i<=a)(V:jP a k)(B:k<h.length)(I:a<h.length)(aj:vM h[k] h[a])(aa:∀c,jP a c->∀U:c<h.length,¬vM h[c] h[k]):lf (ow h a k) i k:=by
 have af:a≠k:=by unfold jP at V;omega
 refine⟨fun j hj ai c U E Z=>?_,fun p c hp au O E ae=>?_⟩
 ·have J:c<h.length:=by rw[<-oX h a k];exact E
  have Y:j<h.length:=by rw[<-oX h a k];exact Z
  rw[qJ I B,qJ I B,if_neg ai];by_cases M:j=a
  ·subst M
   rw[if_pos rfl];by_cases z:c=k
   ·rw[if_pos z];exact JW aj
   ·have ag:c≠j:=by unfold jP at U;omega
    rw[if_neg z,if_neg ag];exact aa c U J
  ·rw[if_neg M]
   by_cases z:c=k
   ·exfalso
    subst z;unfold jP at U V;omega
   ·rw[if_neg z]
    by_cases K:c=a
    ·rw[if_pos K]
     subst K;exact b.up j k hj U V B Y
    ·rw[if_neg K]
     exact b.ok j hj M c U J Y
 ·have J:c<h.length:=by rw[<-oX h a k];exact E
  have ax:p<h.length:=by rw[<-oX h a k];exact ae
  have ak:p=a:=by unfold jP at au V;omega
  subst ak;rw[qJ I B,qJ I B,if_neg af,if_pos rfl];have z:c≠k:=by unfold jP at O;omega
  have ah:c≠p:=by unfold jP at O V;omega
  rw[if_neg z,if_neg ah];exact b.ok k (by unfold jP at V;omega) oMg c O J B
theorem ft.top {h:List cQ}(J:ft h 0):∀(k:Nat)(z:k<h.length),¬vM h[k] (h[0]' oMg):=by
 intro k
 induction k using Nat.strongRecOn with
 | ind k K =>
   intro z;by_cases B:k=0
   ·subst B;exact zS _
   ·have hp:(k-1) / 2<k:=oMg
    have E:=K ((k-1) / 2) hp oMg;have I:=J ((k-1) / 2) (Zv _) k (by unfold jP;omega) z oMg;exact JO E I
theorem ft.half {h:List cQ}{i:Nat}(E:h.length<=2*i+1):ft h i:=fun j I c z B _=>by
 unfold jP at z;omega
theorem ft.but {h:List cQ}{i:Nat}(B:ft h (i+1)):lf h i i :=
 ⟨fun j J E=>B j oMg,fun p c hp z I _ _=>by unfold jP at z;omega⟩
theorem ft.set {h:List cQ}(J:ft h 0)(r:cQ):lf (h.set 0 r) 0 0 :=
 ⟨fun j _ K c I z B=>by
   have E:c≠0:=by unfold jP at I;omega
   rw[zaw]at z B;rw[Xy,Xy,if_neg (Ne.symm E),if_neg (Ne.symm K)]
   exact J j (Zv _) c I z B,fun p c _ hp _ _ _=>by unfold jP at hp;omega⟩
theorem ft.drop {h:List cQ}(J:ft h 0)(r:cQ):lf ((h.set 0 r).take (h.length-1)) 0 0 :=
 ⟨fun j _ K c I B E=>by
   have z:c≠0:=by unfold jP at I;omega
   rw[Zt,zaw]at B E;rw[YU,YU,Xy,Xy,if_neg (Ne.symm z),if_neg (Ne.symm K)]
   exact J j (Zv _) c I oMg oMg,fun p c _ hp _ _ _=>by unfold jP at hp;omega⟩
def km (h:List cQ):List ao:=h.flatMap (·.l)
theorem oS {h h':List cQ}(p:h.Perm h'):(km h).Perm (km h'):=p.flatMap_right _
def qg (h:List cQ):Prop:=∀r∈h,r.l≠[]/\fc r.l
theorem Gk {h:List cQ}(M:ft h 0)(V:qg h)(Z:0<h.length):∀x∈km h,¬kF x h[0].top:=by
 intro x Y;obtain⟨r,z,B⟩:=YP.1 Y;obtain⟨k,O,rfl⟩:=ZI.1 z;have J:¬kF h[k].top h[0].top:=M.top k O
 have K:¬kF x h[k].top:=by
  obtain⟨U,E⟩:=V _ z;generalize h[k]=r at *;obtain⟨A,c,l⟩:=r
  cases l with
  | nil=>cases B
  | cons y l =>
    show ¬kF x y;rcases Zu.1 B with rfl | I
    ·exact uC _
    ·exact tA ((Z5.1 E).1 x I)
 exact vL J K
structure lV (all out:List ao)(h:List cQ):Prop where
 perm:(out++km h).Perm all
 rise:fc out
 below:∀x∈out,∀y∈km h,kF x y
 heap:ft h 0
 runs:qg h
theorem lV.fin {all out:List ao}(m:lV all out []):out=ij all/\fc out:=by
 have hp:out.Perm all:=by simpa [km]using m.perm
 refine⟨?_,m.rise⟩;have B:=jk all;refine EN (hp.trans B.symm) m.rise ?_;refine Ah (E3 all) ?_;have E:=Mo m.rise;have z:∀{x y:ao},¬eW x y->¬eW y x:=fun h h'=>h ⟨h'.1.symm,h'.2.1.symm,h'.2.2.symm⟩;exact(hp.trans B.symm).pairwise E z
theorem lV.least {all out:List ao}{h:List cQ}(m:lV all out h)(K:all.Pairwise fun a b=>¬eW a b){r:cQ}{rest:List cQ}{x:ao}{l:List ao}(e:h=r::rest)(el:r.l=x::l) :
 fc (out++[x])/\(∀y∈l++km rest,kF x y)/\(∀z∈out++[x],∀y∈l++km rest,kF z y)/\((out++[x])++(l++km rest)).Perm all:=by
 subst e
 have B:km (r::rest)=x::(l++km rest):=by
  unfold km;rw[Zp,el];rfl
 have E:=Gk m.heap m.runs (by simp)
 have O:(r::rest)[0].top=x:=by
  show r.top=x;unfold cQ.top;rw[el];rfl
 rw[O,B]at E;have hp:=m.perm;rw[B]at hp;have M:∀{x y:ao},¬eW x y->¬eW y x:=fun h h'=>h ⟨h'.1.symm,h'.2.1.symm,h'.2.2.symm⟩;have Z:=hp.symm.pairwise K M;have aa:=(Z5.1 (Yf.1 Z).2.1).1
 have U:∀y∈l++km rest,kF x y:=fun y V=>by
  rcases tB x y with J | J | J
  ·exact J
  ·exact absurd J (aa y V)
  ·exact absurd J (E y (Zh _ V))
 have Y:∀z∈out,kF z x:=fun z I=>m.below z I x (by rw[B];exact Zj ..);refine⟨Yf.2 ⟨m.rise,X8 _ _,fun a ha b hb=>?_⟩,U,fun z I y V=>?_,?_⟩
 ·rw[ZE]at hb
  rw[hb];exact Y a ha
 ·rcases ZA.1 I with I | I
  ·exact m.below z I y (by rw[B];exact Zh _ V)
  ·rw[ZE]at I
   rw[I];exact U y V
 ·rw[Zr]
  exact hp
theorem lV.next {all out:List ao}{h h':List cQ}(m:lV all out h)(B:all.Pairwise fun a b=>¬eW a b){r:cQ}{rest:List cQ}{x:ao}{l:List ao}(e:h=r::rest)(E:r.l=x::l)
 (hp:(km h').Perm (l++km rest)) (M:ft h' 0) (O:qg h'):lV all (out++[x]) h':=by
 obtain⟨I,Y,J,K⟩:=m.least B e E;refine⟨(List.Perm.append_left _ hp).trans K,I,fun z V y U=>J z V y (hp.mem_iff.1 U),M,O⟩
theorem lV.start {all:List ao}{h:List cQ}(hp:(km h).Perm all)(z:ft h 0)(B:qg h):lV all [] h :=
 ⟨hp,List.Pairwise.nil,(fun x E=>by cases E),z,B⟩
theorem Ka (C:List ao)(s:Nat)(k:ByteArray)(h:∃x∈C,x.key=k/\x.seq<=s):∃x,o3 C s k x:=by
 induction C with
 | nil=>obtain⟨x,hx,_⟩:=h;cases hx
 | cons z C Y =>
   by_cases K:∃x∈C,x.key=k/\x.seq<=s
   ·obtain⟨y,J⟩:=Y K
    by_cases V:z.key=k/\z.seq<=s/\y.seq<z.seq
    ·refine⟨z,Zj ..,V.1,V.2.1,fun u B E I=>?_⟩
     rcases Zu.1 B with rfl | B
     ·exact Zm _
     ·have:=J.max u B E I
      omega
    ·refine⟨y,Zh _ J.mem,J.key,J.upto,fun u B E I=>?_⟩
     rcases Zu.1 B with rfl | B
     ·apply Nat.le_of_not_lt
      intro O;exact V ⟨E,I,O⟩
     ·exact J.max u B E I
   ·obtain⟨x,hx,E,I⟩:=h
    rcases Zu.1 hx with rfl | hx
    ·refine⟨x,Zj ..,E,I,fun u B M U=>?_⟩
     rcases Zu.1 B with rfl | B
     ·exact Zm _
     ·exact absurd ⟨u,B,M,U⟩ K
    ·exact absurd ⟨x,hx,E,I⟩ K
theorem vW {C K:List ao}{s:Nat}(V:yi C)(B:∀x∈K,x∈C){k:ByteArray}(h:∀x,o3 C s k x->x∈K\/x.gone=true/\∀y∈K,y.key=k->¬y.seq<=s)(v:ByteArray):nh K s k v↔nh C s k v:=by
 constructor
 ·rintro⟨J,z,M,U⟩
  obtain⟨x,E⟩:=Ka C s k ⟨J,B _ z.mem,z.key,z.upto⟩;rcases h x E with O | ⟨_,hn⟩
  ·have Z:=z.max x O E.key E.upto
   have h2:=E.max J (B _ z.mem) z.key z.upto;have:x=J:=V x E.mem J (B _ z.mem) (E.key.trans z.key.symm) oMg;subst this;exact⟨x,E,M,U⟩
  ·exact absurd z.upto (hn J z.mem z.key)
 ·rintro⟨x,E,M,U⟩
  rcases h x E with O | ⟨I,_⟩
  ·exact⟨x,⟨O,E.key,E.upto,fun y Y=>E.max y (B y Y)⟩,M,U⟩
  ·rw[M]at I;cases I
theorem vP {C z:List ao}(h:yi C)(B:∀x∈z,x∈C):yi z:=fun x E y I=>h x (B x E) y (B y I)
theorem Mx {C E:List ao}(h:∀x,x∈E↔x∈C)(s:Nat)(k v:ByteArray):nh E s k v↔nh C s k v:=by
 constructor <;> rintro⟨x,z,I,J⟩
 ·exact⟨x,⟨(h x).1 z.mem,z.key,z.upto,fun y B=>z.max y ((h y).2 B)⟩,I,J⟩
 ·exact⟨x,⟨(h x).2 z.mem,z.key,z.upto,fun y B=>z.max y ((h y).1 B)⟩,I,J⟩
def Af (l:List fI):Prop:=l.Pairwise fun a b=>a.1.toList<b.1.toList
theorem ES {l B:List fI}(h:Af l)(h':Af B)(J:∀k v,(k,v)∈l↔(k,v)∈B):l=B:=by
 have z:∀{m:List fI},Af m->m.Nodup:=fun K=>K.imp fun{a b} hab e=>by rw[e]at hab;exact eJ _ hab
 have hp:l.Perm B:=(XO (z h) (z h')).2 fun⟨k,v⟩=>J k v;exact XX (le:=fun a b:fI=>a.1.toList<b.1.toList) (fun a b _ _ E I=>absurd (lq E I) (eJ _)) h h' hp
theorem nE {s:Nat}{r:List ao}{q:fI}(h:q∈kA s r):∃x∈r,x.key=q.1:=by
 unfold kA at h
 split at h
 ·rename_i x hx
  split at h
  ·cases h
  ·rw[ZE]at h
   exact⟨x,YA hx,by rw[h]⟩
 ·cases h
theorem G4 (s:Nat)(r:List ao):Af (kA s r):=by
 unfold kA
 split
 ·split
  ·exact List.Pairwise.nil
  ·exact X8 _ _
 ·exact List.Pairwise.nil
theorem B7 (s:Nat):∀rs:List (List ao),(rs.Pairwise fun a b=>∀x∈a,∀y∈b,x.key.toList<y.key.toList)->Af (rs.flatMap (kA s))
 | [],_=>List.Pairwise.nil
 | r::rs,h=>by
   have B:=Z5.1 h;rw[Zp];refine Yf.2 ⟨G4 s r,B7 s rs B.2,fun a ha b hb=>?_⟩;obtain⟨x,J,E⟩:=nE ha;obtain⟨r',z,hb⟩:=YP.1 hb;obtain⟨y,K,I⟩:=nE hb;rw[<-E,<-I];exact B.1 r' z x J y K
theorem KB {l:List ao}(h:fc l)(s:Nat):Af (qG l s):=B7 s _ (nQ h).1
structure oZ (C:List ao)(s:Nat)(a b:ByteArray)(R:List fI):Prop where
 rise:Af R
 mem:∀k v,(k,v)∈R↔nh C s k v/\¬k.toList<a.toList/\¬b.toList<k.toList
theorem oZ.same {C z:List ao}{s E:Nat}{a b:ByteArray}{R B:List fI}(h:oZ C s a b R)(h':oZ z E a b B)(e:∀k v,nh C s k v↔nh z E k v):R=B :=
 ES h.rise h'.rise fun k v=>by rw[h.mem,h'.mem,e]
theorem EW {l C:List ao}(h:fc l)(s:Nat)(a b:ByteArray)(z:∀x∈l,x∈C)(M:yi C)(B:∀x∈C,¬x.key.toList<a.toList->¬b.toList<x.key.toList->x∈l) :
 oZ C s a b ((qG l s).filter fun q => !decide (q.1.toList<a.toList) && !decide (b.toList<q.1.toList)):=by
 refine⟨(KB h s).sublist ZT,fun k v=>?_⟩;rw[ZB,Mw h (vP M z)];simp only[Yg,Xe,decide_eq_false_iff_not];constructor
 ·rintro⟨K,I,J⟩
  refine⟨?_,I,J⟩;exact(vW M z (fun x E=>.inl (B x E.mem (by rw[E.key];exact I) (by rw[E.key];exact J))) v).1 K
 ·rintro⟨K,I,J⟩
  refine⟨?_,I,J⟩;exact(vW M z (fun x E=>.inl (B x E.mem (by rw[E.key];exact I) (by rw[E.key];exact J))) v).2 K
structure fS (x:ao):Prop where
 key:mj x.key=true
 value:x.value.size<=256
 gone:x.gone=true->x.value.size=0
 seq:x.seq<18446744073709551616
theorem fS.size {x:ao}(h:fS x):1<=x.key.size/\x.key.size<=32:=by
 have z:=h.key;unfold mj at z;simp only[Yg,decide_eq_true_eq,Xe,List.isEmpty_eq_false_iff]at z;refine⟨?_,z.2⟩;have B:x.key.toList.length=x.key.size:=by rw[ByteArray.toList_eq,Array.length_toList];rfl
 have E:=ZO.2 z.1;omega
def sK (b:Bool):UInt8:=if b then 1 else 0
def jz (x:ao):List UInt8:=fk x.key++(ca x.seq++(sK x.gone::if x.gone then []else fk x.value))
theorem pC (s:ByteArray):(fk s).length=(ca s.size).length+s.size:=by
 unfold fk;rw[Ze,Array.length_toList];rfl
theorem Fl {n:Nat}(h:n<=300):(ca n).length<=2:=pE 1 n oMg
theorem ze {x:ao}(h:fS x):(jz x).length<=311:=by
 have z:=h.size;have B:=cN h.seq;have E:=h.value;have I:(ca x.key.size).length<=1:=pE 0 _ oMg;have J:(ca x.value.size).length<=2:=Fl oMg;unfold jz;rw[Ze,Ze,List.length_cons,pC];cases x.gone
 ·simp only[YH,if_false,pC];omega
 ·simp only[if_true,List.length_nil];omega
def hO:List UInt8->List UInt8->Nat
 | a::l,b::m=>if a=b then hO l m+1 else 0
 | _,_=>0
theorem wo:∀(a b:List UInt8),hO a b<=a.length/\hO a b<=b.length
 | [],_=>by simp[hO]
 | _::_,[]=>by simp[hO]
 | a::l,b::m=>by
   have:=wo l m;unfold hO
   split <;> simp only[List.length_cons] <;> omega
theorem xd:∀(a b:List UInt8),a.take (hO a b)=b.take (hO a b)
 | [],_=>by simp[hO]
 | _::_,[]=>by simp[hO]
 | a::l,b::m=>by
   unfold hO
   split
   ·rename_i h;subst h;simp[xd l m]
   ·simp
theorem wm:∀{a b:List UInt8}{n:Nat},(∀j,j<n->∃c,a[j]?=some c/\b[j]?=some c)->(∀c,a[n]?=some c->b[n]?=some c->False)->hO a b=n
 | [],b,0,_,_=>by simp[hO]
 | [],b,n+1,h,_=>by obtain⟨c,z,_⟩:=h 0 oMg;simp at z
 | a::l,[],0,_,_=>by simp[hO]
 | a::l,[],n+1,h,_=>by obtain⟨c,_,z⟩:=h 0 oMg;simp at z
 | a::l,b::m,0,_,h=>by
   unfold hO;rw[if_neg];intro e;exact h a rfl (by rw[e];rfl)
 | a::l,b::m,n+1,h,h'=>by
   unfold hO;obtain⟨c,B,E⟩:=h 0 oMg;simp at B E;rw[if_pos (B.trans E.symm),wm (a:=l) (b:=m) (n:=n) (fun j I=>by simpa using h (j+1) oMg) (fun c=>by simpa using h' c)]
def rD (i:Nat)(last key:ByteArray):Nat:=if i%4=0 then 0 else hO last.toList key.toList
theorem IG (i:Nat)(last key:ByteArray):rD i last key<=last.toList.length/\rD i last key<=key.toList.length:=by
 unfold rD
 split
 ·omega
 ·exact wo _ _
theorem Km (i:Nat)(last key:ByteArray):last.toList.take (rD i last key)=key.toList.take (rD i last key):=by
 unfold rD
 split
 ·simp
 ·exact xd _ _
def oE (s:ByteArray)(n:Nat):ByteArray:=⟨(s.toList.drop n).toArray⟩
def tK (i:Nat)(last:ByteArray)(x:ao):List UInt8:=ca (rD i last x.key)++jz {x with key:=oE x.key (rD i last x.key)}
def kH:Nat->ByteArray->List ao->List UInt8
 | _,_,[]=>[]
 | i,last,x::l=>tK i last x++kH (i+1) x.key l
def mC:Nat->Nat->ByteArray->List ao->List Nat
 | _,_,_,[]=>[]
 | i,p,last,x::l=>(if i%4=0 then [p]else [])++mC (i+1) (p+(tK i last x).length) x.key l
def sj (n:Nat):List UInt8:=[UInt8.ofNat (n / 256),UInt8.ofNat n]
def cU (l:List ao):List UInt8:=kH 0 ⟨#[]⟩ l++((mC 0 0 ⟨#[]⟩ l).flatMap sj++sj (mC 0 0 ⟨#[]⟩ l).length)
def kK (last:ByteArray)(l:List ao):Nat->ByteArray
 | 0=>last
 | i+1=>(l.getD i default).key
theorem BQ:∀(l:List ao)(i:Nat)(last:ByteArray)(x:ao),kH i last (l++[x])=kH i last l++tK (i+l.length) (kK last l l.length) x
 | [],i,last,x=>by simp[kH,kK]
 | y::l,i,last,x=>by
   have e:kK last (y::l) (y::l).length=kK y.key l l.length:=by
    cases z:l.length with
    | zero=>have:=Zo z;subst this;simp[kK]
    | succ n=>simp[kK,z]
   simp only[List.cons_append,kH,BQ l,Zr,List.length_cons];rw[<-e];simp only[List.length_cons];rw[show i+1+l.length=i+(l.length+1) by omega]
theorem BS:∀(l:List ao)(i p:Nat)(last:ByteArray)(x:ao),mC i p last (l++[x])=mC i p last l++(if (i+l.length)%4=0 then [p+(kH i last l).length]else [])
 | [],i,p,last,x=>by simp[kH,mC]
 | y::l,i,p,last,x=>by
   simp only[List.cons_append,kH,mC,BS l,Zr,List.length_cons,Ze];rw[show i+1+l.length=i+(l.length+1) by omega,YB]
theorem q8 (s:ByteArray)(n:Nat):(oE s n).size=s.size-n:=by
 show (s.toList.drop n).toArray.size=_;rw[Zl,ZF,ByteArray.toList_eq,Array.length_toList];rfl
theorem Lf {x:ao}(h:fS x)(i:Nat)(last:ByteArray):(tK i last x).length<=312:=by
 have B:=h.size;have E:=cN h.seq;have I:=h.value;have hp:=(IG i last x.key).2;have O:x.key.toList.length=x.key.size:=by rw[ByteArray.toList_eq,Array.length_toList];rfl
 have z:(ca (rD i last x.key)).length<=1:=pE 0 _ oMg;have J:(ca (oE x.key (rD i last x.key)).size).length<=1:=pE 0 _ (by rw[q8];omega);have M:=q8 x.key (rD i last x.key);have K:(ca x.value.size).length<=2:=Fl oMg;unfold tK jz;rw[Ze,Ze,Ze,List.length_cons,pC];simp only;cases x.gone
 ·simp only[YH,if_false,pC];omega
 ·simp only[if_true,List.length_nil];omega
theorem sv:∀(l:List ao)(i:Nat)(last:ByteArray),(∀x∈l,fS x)->(kH i last l).length<=312*l.length
 | [],_,_,_=>by simp[kH]
 | x::l,i,last,h=>by
   have B:=Lf (h x (Zj ..)) i last;have E:=sv l (i+1) x.key fun y z=>h y (Zh _ z);simp only[kH,Ze,List.length_cons];omega
theorem qi:∀(l:List ao)(i p:Nat)(last:ByteArray),(mC i p last l).length<=l.length
 | [],_,_,_=>by simp[mC]
 | x::l,i,p,last=>by
   have z:=qi l (i+1) (p+(tK i last x).length) x.key;simp only[mC,Ze,List.length_cons]
   split <;> simp <;> omega
theorem vy (l:List Nat):(l.flatMap sj).length=2*l.length:=by
 induction l with
 | nil=>rfl
 | cons x l z=>rw[Zp,Ze,z,List.length_cons];simp[sj];omega
theorem qS {l:List ao}(h:∀x∈l,fS x):(cU l).length<=314*l.length+2:=by
 have z:=sv l 0 ⟨#[]⟩ h;have B:=qi l 0 0 ⟨#[]⟩;unfold cU;rw[Ze,Ze,vy];simp[sj];omega
def rx (a b:List UInt8):BitVec 32:=kO (kO 0#32 a) b
def gt (r:List UInt8):List UInt8:=ff r.length++(ff (rx (ff r.length) r).toNat++r)
theorem jM (r:List UInt8):(gt r).length=8+r.length:=by
 unfold gt;rw[Ze,Ze];simp[ff];omega
def cH (l:List ao):List (List ao):=if _h:l=[]then []else l.take 16::cH (l.drop 16)
termination_by l.length
decreasing_by
 have:=ZO.2 _h;rw[ZF];omega
def dj (cs:List (List ao)):List UInt8:=cs.flatMap fun c=>gt (cU c)
def lg (c:List ao):ao:=c.getD (c.length-1) default
def iz:Nat->List (List ao)->List UInt8
 | _,[]=>[]
 | p,c::cs=>(ca p++(fk (lg c).key++(ca (lg c).seq++[sK (lg c).gone])))++iz (p+(gt (cU c)).length) cs
def indexB (cs:List (List ao)):List UInt8:=ca cs.length++iz 0 cs
def nu (l:List ao):List ByteArray:=match l with
 | []=>[]
 | x::l=>x.key::((x::l).zip l).filterMap fun p=>if p.2.key=p.1.key then none else some p.2.key
def oH (key:ByteArray)(z i:Nat):Nat:=((kO 0#32 key.data.toList).toNat+i*(kO (kO 0#32 key.data.toList) [1]).toNat)%4294967296%z
def oD (b:List UInt8)(at_:Nat):List UInt8:=b.set (at_ / 8) (b.getD (at_ / 8) 0 ||| UInt8.ofNat (2 ^ (at_%8)))
def kv (n:Nat):Nat:=(max 64 (10*n)+7) / 8
def ui (keys:List ByteArray):List UInt8 :=
 keys.foldl (fun b k=>(List.range 6).foldl (fun b i=>oD b (oH k (8*kv keys.length) i)) b) (eA (kv keys.length)++[6])
def cq (l:List ao):List UInt8 :=
 let cs:=cH l
 let p:=dj cs
 let z:=gt (indexB cs)
 let B:=gt (ui (nu l))
 p++(z++(B++(ff p.length++(ff (p.length+z.length)++ff l.length))))
structure fV (l:List ao):Prop where
 ne:l≠[]
 ok:∀x∈l,fS x
 rise:fc l
end Go.Sl
namespace Go.Proofs.YtdfppjcaelghhaaGreatDoor
open Go.RowKit Go.Sl
attribute [local go_sem] ab bj bh
theorem I9 (a b:ByteArray)(w:World):Calls Tryz.prog 197 #[.string a,.string b] w fun e M=>e=.returned (.int .i64 (tL a b))/\M=w:=by
 have N:=fun(a:ByteArray)(u:World)=>(show Calls Tryz.prog 247 #[.string a] u fun e M=>e=.returned (.bool false)/\M=u by
  go_enter Tryz.func247,Tryz.ntmps247
  go_wp2_with fail
  go_ret
  exact⟨by simp,rfl⟩)
 obtain⟨z,E⟩:∃z,tL a b=z:=⟨_,rfl⟩;rw[E];unfold tL at E;by_cases J:Op.bytesLess a.toList b.toList=true
 ·rw[if_pos J]at E
  subst E;go_enter Tryz.func197,Tryz.ntmps197
  go_wp2_with (go_at_call 247;refine(N _ _).mono ?_;rintro e w1 ⟨rfl,rfl⟩)
  go_ret
  exact⟨rfl,rfl⟩
 ·rw[if_neg J]at E
  have B:Op.bytesLess a.toList b.toList=false:=by simpa using J
  clear J;by_cases I:a.toList=b.toList
  ·have K:(a.toList==b.toList)=true:=by rw[I];simp
   have hb:¬Op.bytesLess b.toList a.toList=true:=by rw[<-I]at B ⊢;rw[B];decide
   rw[if_neg hb]at E;clear I hb;subst E;go_enter Tryz.func197,Tryz.ntmps197
   go_wp2_with (go_at_call 247;refine(N _ _).mono ?_;rintro e w1 ⟨rfl,rfl⟩)
   go_ret
   exact⟨rfl,rfl⟩
  ·have K:(a.toList==b.toList)=false:=beq_eq_false_iff_ne.2 I
   have hb:Op.bytesLess b.toList a.toList=true:=by
    rw[Go.Proofs.bytesLess_eq]at B ⊢;rcases pc a.toList b.toList with h | h | h
    ·simp[h]at B
    ·exact absurd h I
    ·simpa using h
   rw[if_pos hb]at E;clear I hb;subst E;go_enter Tryz.func197,Tryz.ntmps197
   go_wp2_with (go_at_call 247;refine(N _ _).mono ?_;rintro e w1 ⟨rfl,rfl⟩)
   go_ret
   exact⟨rfl,rfl⟩
theorem DJ (a b:Nat)(w:World):Calls Tryz.prog 199 #[.int .u64 (a:Int),.int .u64 (b:Int)] w fun e J=>e=.returned (.int .i64 (oJ a b))/\J=w:=by
 have N:=fun(a:Int)(u:World)=>(show Calls Tryz.prog 248 #[.int .u64 a] u fun e J=>e=.returned (.bool false)/\J=u by
  go_enter Tryz.func248,Tryz.ntmps248
  go_wp2_with fail
  go_ret
  exact⟨rfl,rfl⟩)
 obtain⟨z,B⟩:∃z,oJ a b=z:=⟨_,rfl⟩;rw[B];unfold oJ at B;by_cases K:a<b
 ·rw[if_pos K]at B
  subst B;have E:(a:Int)<(b:Int):=oMg
  go_enter Tryz.func199,Tryz.ntmps199
  go_wp2_with (go_at_call 248;refine(N _ _).mono ?_;rintro e w1 ⟨rfl,rfl⟩)
  go_ret
  exact⟨rfl,rfl⟩
 ·rw[if_neg K]at B
  have E:¬(a:Int)<(b:Int):=oMg
  by_cases M:b<a
  ·rw[if_pos M]at B
   subst B;have I:(b:Int)<(a:Int):=oMg
   go_enter Tryz.func199,Tryz.ntmps199
   go_wp2_with (go_at_call 248;refine(N _ _).mono ?_;rintro e w1 ⟨rfl,rfl⟩)
   go_ret
   exact⟨rfl,rfl⟩
  ·rw[if_neg M]at B
   have I:¬(b:Int)<(a:Int):=oMg
   subst B;go_enter Tryz.func199,Tryz.ntmps199
   go_wp2_with (go_at_call 248;refine(N _ _).mono ?_;rintro e w1 ⟨rfl,rfl⟩)
   go_ret
   exact⟨rfl,rfl⟩
theorem FN (a b:Nat)(w:World):Calls Tryz.prog 201 #[.int .u8 (a:Int),.int .u8 (b:Int)] w fun e J=>e=.returned (.int .i64 (oJ a b))/\J=w:=by
 have N:=fun(a:Int)(u:World)=>(show Calls Tryz.prog 249 #[.int .u8 a] u fun e J=>e=.returned (.bool false)/\J=u by
  go_enter Tryz.func249,Tryz.ntmps249
  go_wp2_with fail
  go_ret
  exact⟨rfl,rfl⟩)
 obtain⟨z,B⟩:∃z,oJ a b=z:=⟨_,rfl⟩;rw[B];unfold oJ at B;by_cases K:a<b
 ·rw[if_pos K]at B
  subst B;have E:(a:Int)<(b:Int):=oMg
  go_enter Tryz.func201,Tryz.ntmps201
  go_wp2_with (go_at_call 249;refine(N _ _).mono ?_;rintro e w1 ⟨rfl,rfl⟩)
  go_ret
  exact⟨rfl,rfl⟩
 ·rw[if_neg K]at B
  have E:¬(a:Int)<(b:Int):=oMg
  by_cases M:b<a
  ·rw[if_pos M]at B
   subst B;have I:(b:Int)<(a:Int):=oMg
   go_enter Tryz.func201,Tryz.ntmps201
   go_wp2_with (go_at_call 249;refine(N _ _).mono ?_;rintro e w1 ⟨rfl,rfl⟩)
   go_ret
   exact⟨rfl,rfl⟩
  ·rw[if_neg M]at B
   have I:¬(b:Int)<(a:Int):=oMg
   subst B;go_enter Tryz.func201,Tryz.ntmps201
   go_wp2_with (go_at_call 249;refine(N _ _).mono ?_;rintro e w1 ⟨rfl,rfl⟩)
   go_ret
   exact⟨rfl,rfl⟩
theorem uE (b:Bool)(w:World):Calls Tryz.prog 66 #[.bool b] w fun e z=>e=.returned (.int .u8 (mL b:Int))/\z=w:=by
 cases b
 ·go_enter Tryz.func66,Tryz.ntmps66
  go_wp2_with fail
  go_ret
  exact⟨rfl,rfl⟩
 ·go_enter Tryz.func66,Tryz.ntmps66
  go_wp2_with fail
  go_ret
  exact⟨rfl,rfl⟩
section
variable (pa pb:Nat)(x y:ao)(w w0:World)(S:ba)(m:Mod w w0 S) [ha:jq S pa (.cells #[.string x.key,.int .u64 (x.seq:Int),.bool x.gone] 69 (0,0))] [hb:jq S pb (.cells #[.string y.key,.int .u64 (y.seq:Int),.bool y.gone] 69 (0,0))]
include m ha hb
theorem GH:Calls Tryz.prog 196 #[ap pa,ap pb] w fun e B=>e=.returned (.int .i64 (tL x.key y.key))/\Mod B w0 S:=by
 have H:=zbj (fun(u:World)=>I9 x.key y.key u);generalize tL x.key y.key=z at *;go_enter Tryz.func196,Tryz.ntmps196
 go_wp2_with (go_at_call 197;refine(H.out _).mono ?_;rintro e w1 ⟨rfl,rfl⟩)
 go_ret
 exact⟨rfl,m⟩
theorem GI:Calls Tryz.prog 198 #[ap pb,ap pa] w fun e B=>e=.returned (.int .i64 (oJ y.seq x.seq))/\Mod B w0 S:=by
 have H:=zbj (fun(u:World)=>DJ y.seq x.seq u);generalize oJ y.seq x.seq=z at *;go_enter Tryz.func198,Tryz.ntmps198
 go_wp2_with (go_at_call 199;refine(H.out _).mono ?_;rintro e w1 ⟨rfl,rfl⟩)
 go_ret
 exact⟨rfl,m⟩
theorem GJ:Calls Tryz.prog 200 #[ap pb,ap pa] w fun e B=>e=.returned (.int .i64 (oJ (mL y.gone) (mL x.gone)))/\Mod B w0 S:=by
 have H:Hid (∀u,Mod u w0 S->Calls Tryz.prog 201 #[.int .u8 (mL y.gone:Int),.int .u8 (mL x.gone:Int)] u fun e B=>e=.returned (.int .i64 (oJ (mL y.gone) (mL x.gone)))/\Mod B w0 S):=fun u J=>(FN (mL y.gone) (mL x.gone) u).mono fun e B ⟨E,I⟩=>⟨E,I▸J⟩;have K:Hid (∀b u,Mod u w0 S->Calls Tryz.prog 66 #[.bool b] u fun e B=>e=.returned (.int .u8 (mL b:Int))/\Mod B w0 S):=fun b u J=>(uE b u).mono fun e B ⟨E,I⟩=>⟨E,I▸J⟩;generalize oJ (mL y.gone) (mL x.gone)=z at *;have:=jO.some m;go_enter Tryz.func200,Tryz.ntmps200
 go_wp2_with fail
 refine dy m kRf kRf ?_
 repeat (go_big_quiet_step (first | (go_at_call 66;refine cW (K.out _ _ ?_);exact zbk) | (go_at_call 201;refine cW (H.out _ ?_);exact zbk)))
 refine wpQuiet_nil ?_;rintro O ⟨s,rfl⟩;have M:=s.mod;go_wp2_with fail
 go_ret
 exact⟨rfl,M⟩
end
theorem nN (x y:ao)(w w0:World)(S:ba)(m:Mod w w0 S):Calls Tryz.prog 129 #[.agg #[.string x.key,.int .u64 (x.seq:Int),.bool x.gone],.agg #[.string y.key,.int .u64 (y.seq:Int),.bool y.gone]] w fun e w'=>e=.returned (.int .i64 (oh x y))/\Mod w' w0 S:=by
 obtain⟨z,U⟩:∃z,oh x y=z:=⟨_,rfl⟩;rw[U];have B:z=if tL x.key y.key≠0 then tL x.key y.key else if oJ y.seq x.seq≠0 then oJ y.seq x.seq else oJ (mL y.gone) (mL x.gone):=U.symm;have J:=zbj (fun(pa pb:Nat)(u:World)(S:ba)(m:Mod u w0 S)(ha:jq S pa (.cells #[.string x.key,.int .u64 (x.seq:Int),.bool x.gone] 69 (0,0)))(hb:jq S pb (.cells #[.string y.key,.int .u64 (y.seq:Int),.bool y.gone] 69 (0,0)))=>GH pa pb x y u w0 S m);have K:=zbj (fun(pa pb:Nat)(u:World)(S:ba)(m:Mod u w0 S)(ha:jq S pa (.cells #[.string x.key,.int .u64 (x.seq:Int),.bool x.gone] 69 (0,0)))(hb:jq S pb (.cells #[.string y.key,.int .u64 (y.seq:Int),.bool y.gone] 69 (0,0)))=>GI pa pb x y u w0 S m);have Y:=zbj (fun(pa pb:Nat)(u:World)(S:ba)(m:Mod u w0 S)(ha:jq S pa (.cells #[.string x.key,.int .u64 (x.seq:Int),.bool x.gone] 69 (0,0)))(hb:jq S pb (.cells #[.string y.key,.int .u64 (y.seq:Int),.bool y.gone] 69 (0,0)))=>GJ pa pb x y u w0 S m);generalize tL x.key y.key=z1 at *;generalize oJ y.seq x.seq=z2 at *;generalize oJ (mL y.gone) (mL x.gone)=z3 at *;clear U;by_cases M:z1=0
 ·rw[if_neg (by simpa using M)]at B
  subst M;by_cases O:z2=0
  ·rw[if_neg (by simpa using O)]at B
   subst O B;by_cases h3:z=0
   ·subst h3
    go_enter Tryz.func129,Tryz.ntmps129
    go_wp2_with fail
    refine wp_loop_rounds 4 ?_;rw[rounds_succ];go_wp2_with (go_at_call 196;refine(J.out _ _ _ _ zbk zbk zbk).mono ?_;rintro e w1 ⟨rfl,E⟩)
    rw[rounds_succ];go_wp2_with (go_at_call 198;refine(K.out _ _ _ _ E zbk zbk).mono ?_;rintro e Z ⟨rfl,I⟩)
    rw[rounds_succ];go_wp2_with (go_at_call 200;refine(Y.out _ _ _ _ I zbk zbk).mono ?_;rintro e w3 ⟨rfl,V⟩)
    rw[rounds_succ];go_wp2_with fail
    go_ret
    exact⟨rfl,Mod.keep V⟩
   ·go_enter Tryz.func129,Tryz.ntmps129
    go_wp2_with fail
    refine wp_loop_rounds 4 ?_;rw[rounds_succ];go_wp2_with (go_at_call 196;refine(J.out _ _ _ _ zbk zbk zbk).mono ?_;rintro e w1 ⟨rfl,E⟩)
    rw[rounds_succ];go_wp2_with (go_at_call 198;refine(K.out _ _ _ _ E zbk zbk).mono ?_;rintro e Z ⟨rfl,I⟩)
    rw[rounds_succ];go_wp2_with (go_at_call 200;refine(Y.out _ _ _ _ I zbk zbk).mono ?_;rintro e w3 ⟨rfl,V⟩)
    (try rw[Exit.noGoto_ret])
    go_ret
    exact⟨rfl,Mod.keep V⟩
  ·rw[if_pos O]at B
   subst B;go_enter Tryz.func129,Tryz.ntmps129
   go_wp2_with fail
   refine wp_loop_rounds 4 ?_;rw[rounds_succ];go_wp2_with (go_at_call 196;refine(J.out _ _ _ _ zbk zbk zbk).mono ?_;rintro e w1 ⟨rfl,E⟩)
   rw[rounds_succ];go_wp2_with (go_at_call 198;refine(K.out _ _ _ _ E zbk zbk).mono ?_;rintro e Z ⟨rfl,I⟩)
   (try rw[Exit.noGoto_ret])
   go_ret
   exact⟨rfl,Mod.keep I⟩
 ·rw[if_pos M]at B
  subst B;go_enter Tryz.func129,Tryz.ntmps129
  go_wp2_with fail
  refine wp_loop_rounds 4 ?_;rw[rounds_succ];go_wp2_with (go_at_call 196;refine(J.out _ _ _ _ zbk zbk zbk).mono ?_;rintro e w1 ⟨rfl,E⟩)
  (try rw[Exit.noGoto_ret])
  go_ret
  exact⟨rfl,Mod.keep E⟩
open Go.RowKit Go.Sl
attribute [local go_sem] ab bj bh bd
structure bp (S:ba)(A:Option Addr)(n:Nat)(l:List ao):Prop where
 len:l.length=n
 cells:bk S A (n*4) (l.flatMap ao.cells)
theorem bp.lift {S' S:ba}{A:Option Addr}{n:Nat}{l:List ao}(s:Sub S' S)(r:bp S A n l):bp S' A n l:=⟨r.len,ct s r.cells⟩
theorem DX:∀(l:List ao)(k j:Nat)(v:Value)(h:k<l.length),l[k].cells[j]?=some v->(l.flatMap ao.cells)[k*4+j]?=some v
 | [],k,_,_,h,_=>by simp at h
 | x::l,0,j,v,_,hv=>by
   simp only[List.getElem_cons_zero]at hv;rw[Zp,Xj,ZM,Yz (Yd.1 hv).1];exact hv
 | x::l,k+1,j,v,h,hv=>by
   have z:x.cells.length=4:=rfl;rw[Zp,Z7 (by rw[z];omega),z,show (k+1)*4+j-4=k*4+j by omega];exact DX l k j v (by simpa using h) (by simpa using hv)
theorem jc {S:ba}{b o n:Nat}{l:List ao}(r:bp S (some ⟨b,o,none⟩) n l){k:Nat}(z:k<l.length):bw S b (o+k*4) (.string l[k].key)/\bw S b (o+k*4+1) (.int .u64 (l[k].seq:Int))/\bw S b (o+k*4+2) (.bool l[k].gone)/\bw S b (o+k*4+3) (.string l[k].value):=by
 have hp:0<n*4:=by have:=r.len;omega
 have f:∀j v,l[k].cells[j]?=some v->bw S b (o+k*4+j) v:=fun j v B=>by
  rw[YB];exact eL r.cells hp _ (DX l k j v z B)
 exact⟨f 0 _ rfl,f 1 _ rfl,f 2 _ rfl,f 3 _ rfl⟩
theorem gw {w w0:World}{S:ba}{A:Option Addr}{n:Nat}{l:List ao}(m:Mod w w0 S)(r:bp S A n l){k:Nat}(B:k<n):∃b o,A=some ⟨b,o,none⟩:=by
 obtain⟨ad,ha,z,_⟩:=cP m r.cells oMg;obtain⟨b,o,E⟩:=ad;simp only at z;subst z;exact⟨b,o,ha⟩
theorem pk (l:List ao):∀u∈l.flatMap ao.cells,u.oneCell'=true:=by
 intro u B;obtain⟨x,_,z⟩:=YP.1 B;simp only[ao.cells,Zu,XB,or_false]at z;rcases z with rfl | rfl | rfl | rfl <;> rfl
theorem bp.part {S:ba}{A:Option Addr}{n:Nat}{l:List ao}(r:bp S A n l)(i k:Nat)(h:i+k<=n):bp S (A.map (·.add (i*4))) k ((l.drop i).take k):=by
 refine⟨by have:=r.len;simp;omega,?_⟩;have B:=r.cells.part (i*4) (k*4) oMg
 have e:((l.flatMap ao.cells).drop (i*4)).take (k*4)=((l.drop i).take k).flatMap ao.cells:=by
  have hd:∀(l:List ao)(i:Nat),(l.flatMap ao.cells).drop (i*4)=(l.drop i).flatMap ao.cells:=by
   intro l
   induction l with
   | nil=>intro i;simp
   | cons x l z =>
     intro i
     cases i with
     | zero=>simp
     | succ i =>
       rw[Zp,ZY,<-z i,za8,show x.cells.length=4 from rfl,Yj (show x.cells.length<=(i+1)*4 by show 4≤_;omega),List.nil_append,show (i+1)*4-4=i*4 by omega]
  have ht:∀(l:List ao)(k:Nat),(l.flatMap ao.cells).take (k*4)=(l.take k).flatMap ao.cells:=by
   intro l
   induction l with
   | nil=>intro k;simp
   | cons x l z =>
     intro k
     cases k with
     | zero=>simp
     | succ k =>
       rw[Zp,List.take_succ_cons,Zp,<-z k,zaq,show x.cells.length=4 from rfl,Zn (show x.cells.length<=(k+1)*4 by show 4≤_;omega),show (k+1)*4-4=k*4 by omega]
  rw[hd,ht]
 rw[e]at B;exact B
theorem bp.jE {S:ba}(A:Option Addr):bp S A 0 []:=⟨rfl,bk.jE A⟩
def lM (p:ao->Bool)(l:List ao):Int:=match l.findIdx? p with | some i=>(i:Int) | none => -1
theorem Ce {p:ao->Bool}{l:List ao}{i:Nat}(z:i<l.length)(h:∀j (_:j<l.length),j<i->p l[j]=false)(hp:p l[i]=true):lM p l=(i:Int):=by
 unfold lM
 have:l.findIdx? p=some i:=by
  rw[Zk];exact⟨z,hp,fun j B=>by simpa using h j oMg B⟩
 rw[this]
theorem Ec {p:ao->Bool}{l:List ao}(h:∀j (_:j<l.length),p l[j]=false):lM p l = -1:=by
 unfold lM
 have:l.findIdx? p=none:=by
  rw[ZV];intro x B;obtain⟨j,z,rfl⟩:=ZI.1 B;exact h j z
 rw[this]
theorem C8 (p s:Nat)(f:ao)(w w0:World)(S:ba)(m:Mod w w0 S)(hp:jq S p (.cells #[.int .u64 (s:Int)] 29 (0,0))):Calls Tryz.prog 205 #[.agg #[.string f.key,.int .u64 (f.seq:Int),.bool f.gone,.string f.value],.pointer (some ⟨p,0,none⟩)] w fun e E=>e=.returned (.bool (decide (f.seq<=s)))/\Mod E w0 S:=by
 obtain⟨k,q,g,v⟩:=f;obtain⟨z,B⟩:∃z,decide (q<=s)=z:=⟨_,rfl⟩;show Calls Tryz.prog _ #[.agg #[.string k,.int .u64 (q:Int),.bool g,.string v],_] _ fun e E=>e=.returned (.bool (decide (q<=s)))/\_;by_cases h:q<=s
 ·have I:(q:Int)<=(s:Int):=oMg
  rw[decide_eq_true h];clear B;go_enter Tryz.func205,Tryz.ntmps205
  go_wp2_with fail
  go_ret
  exact⟨by first | rfl | simp[h],Mod.keep (Mod.alloc (m:=m) _)⟩
 ·have I:¬(q:Int)<=(s:Int):=oMg
  rw[decide_eq_false h];clear B;go_enter Tryz.func205,Tryz.ntmps205
  go_wp2_with fail
  go_ret
  exact⟨by first | rfl | simp[h],Mod.keep (Mod.alloc (m:=m) _)⟩
theorem zC (p s:Nat)(A:Option Addr)(n c:Nat)(l:List ao)(w w0:World)(S:ba)(m:Mod w w0 S)(hp:jq S p (.cells #[.int .u64 (s:Int)] 29 (0,0)))(r:bp S A n l)(hn:n<=1000000000) :
 Calls Tryz.prog 204 #[.slice A n c,.func (.func 205) #[] #[.pointer (some ⟨p,0,none⟩)]] w fun e w'=>e=.returned (.int .i64 (lM (fun f=>decide (f.seq<=s)) l))/\Mod w' w0 S:=by
 have R:=zbj r;obtain⟨z,Z⟩:∃z,lM (fun f=>decide (f.seq<=s)) l=z:=⟨_,rfl⟩;rw[Z];have Hz:=zbj Z;clear r Z;go_enter Tryz.func204,Tryz.ntmps204
 go_wp2_with fail
 go_loopg [8] n (fun gk iv wr=>∃i:Nat,i<=n/\gk=n-i/\iv=.int .i64 (i:Int)/\Hid (∀j (_:j<l.length),j<i->decide (l[j].seq<=s)=false)/\Mod wr w0 S)
 case atStart=>exact⟨0,Zv _,rfl,rfl,(fun j _ U=>by omega),m⟩
 case round =>
  obtain⟨i,hi,aa,rfl,E,V⟩:=hrel;by_cases K:i<n
  ·have Y:(i:Int)<(n:Int):=oMg
   have M:i<l.length:=by rw[R.out.len];exact K
   obtain⟨b,o,rfl⟩:=gw V R.out K;obtain⟨c0,c1,c2,c3⟩:=jc R.out M;have O:=zbj (fun(u:World)(mu:Mod u w0 S)=>C8 p s l[i] u w0 S mu hp)
   cases B:decide (l[i].seq<=s)with
   | false =>
     rw[B]at O
     have J:Hid (∀j (_:j<l.length),j<i+1->decide (l[j].seq<=s)=false):=fun j U ae=>by
      by_cases e:j=i
      ·subst e;exact B
      ·exact E.out j U oMg
     clear B;generalize l[i]=f at *;go_wp2_with (go_at_call 205;refine(O.out _ V).mono ?_;rintro e w1 ⟨rfl,m2⟩)
     go_roundg (n-(i+1))
     case measure=>omega
     case rel=>exact⟨i+1,K,rfl,by go_num,J,m2⟩
   | true =>
     rw[B]at O;have I:Hid (z=(i:Int)):=by show _=_;rw[<-Hz.out];exact Ce M E.out B
     clear B;generalize l[i]=f at *;go_wp2_with (go_at_call 205;refine(O.out _ V).mono ?_;rintro e w1 ⟨rfl,m2⟩)
     (try rw[Exit.noGoto_ret])
     go_ret
     exact⟨by rw[I.out];rfl,m2⟩
  ·have Y:¬(i:Int)<(n:Int):=oMg
   have I:Hid (z = -1):=by
    show _=_;rw[<-Hz.out];exact Ec fun j U=>E.out j U (by have:=R.out.len;omega)
   go_wp2_with fail
   go_ret
   exact⟨by rw[I.out];rfl,V⟩
theorem xP (s:Nat)(A:Option Addr)(n c:Nat)(l:List ao)(w w0:World)(S:ba)(m:Mod w w0 S)(r:bp S A n l)(hn:n<=1000000000) :
 Calls Tryz.prog 136 #[.slice A n c,.int .u64 (s:Int)] w fun e E=>e=.returned (.int .i64 (lM (fun f=>decide (f.seq<=s)) l))/\Mod E w0 S:=by
 have H:=zbj (fun(p:Nat)(u:World)(S':ba)(mu:Mod u w0 S')(hp:jq S' p (.cells #[.int .u64 (s:Int)] 29 (0,0)))(r:bp S' A n l)=>zC p s A n c l u w0 S' mu hp r hn);generalize lM (fun f=>decide (f.seq<=s)) l=z at *;go_enter Tryz.func136,Tryz.ntmps136
 go_wp2_with (go_at_call 204;refine(H.out _ _ _ (Mod.alloc (m:=m) _) zbk (r.lift zbk)).mono ?_;rintro e w1 ⟨rfl,B⟩)
 go_ret
 exact⟨rfl,Mod.keep B⟩
def rH (l:List ao):Bool:=decide (fc l)
theorem EL:∀(l:List ao),(∀i (h:i+1<l.length),kF l[i] l[i+1])->fc l
 | [],_=>List.Pairwise.nil
 | [x],_=>X8 _ _
 | x::y::l,h=>by
   have I:=EL (y::l) fun i J=>h (i+1) (by simpa using J);have E:kF x y:=by simpa using h 0 (by simp)
   refine Z5.2 ⟨fun z B=>?_,I⟩;rcases Zu.1 B with rfl | B
   ·exact E
   ·exact k7 E ((Z5.1 I).1 z B)
theorem Mp {l:List ao}{k:Nat}(h:k+1<l.length)(hn:¬kF l[k] l[k+1]):rH l=false :=
 decide_eq_false fun z=>hn (Z0.1 z k (k+1) oMg h oMg)
theorem Kv {l:List ao}(h:∀i (h:i+1<l.length),kF l[i] l[i+1]):rH l=true:=decide_eq_true (EL l h)
theorem fZ (A:Option Addr)(n c:Nat)(l:List ao)(w w0:World)(S:ba)(m:Mod w w0 S)(r:bp S A n l)(hn:n<=1000000000) :
 Calls Tryz.prog 132 #[.slice A n c] w fun e w'=>e=.returned (.bool (rH l))/\Mod w' w0 S:=by
 have R:=zbj r;have Hl:=zbj r.len;obtain⟨z,hz⟩:∃z,rH l=z:=⟨_,rfl⟩;rw[hz];have Hz:=zbj hz;clear r hz;go_enter Tryz.func132,Tryz.ntmps132
 go_wp2_with fail
 go_loopg [3] (n+1) (fun gk iv wr=>∃k:Nat,k<=n/\gk=n+1-k/\iv=.int .i64 ((k:Int)+1)/\Hid (∀j (_:j+1<l.length),j<k->kF l[j] l[j+1])/\Mod wr w0 S)
 case atStart=>exact⟨0,Zv _,rfl,rfl,(fun j _ U=>by omega),m⟩
 case round =>
  obtain⟨k,hk,aa,rfl,E,O⟩:=hrel;by_cases M:k+1<n
  ·have Y:(k:Int)+1<(n:Int):=oMg
   have ae:(k:Int)<(n:Int):=oMg
   have K:k+1<l.length:=by rw[Hl.out];exact M
   obtain⟨b,o,rfl⟩:=gw O R.out M;obtain⟨c0,c1,c2,c3⟩:=jc R.out K;obtain⟨d0,d1,d2,d3⟩:=jc R.out (show k<l.length by omega);have HF:=zbj (fun(u:World)(mu:Mod u w0 S)=>nN l[k] l[k+1] u w0 S mu);have V:=zbj (fun hp=>Hz.out.symm.trans (Mp K hp))
   have B:=zbj (fun(hp:kF l[k] l[k+1])=>(fun(j:Nat)(U:j+1<l.length)(af:j<k+1)=>by
    by_cases e:j=k
    ·subst e;exact hp
    ·exact E.out j U oMg:∀j (_:j+1<l.length),j<k+1->kF l[j] l[j+1]))
   have Hc:=zbj (qW l[k] l[k+1]);generalize l[k]=f at *;generalize l[k+1]=g at *;generalize oh f g=y at *;have:=jO.some O;by_cases hy:y<0
   ·have Z:¬(0:Int)<=y:=oMg
    have J:=B.out (Hc.out.1 hy);have J:=zbj J;clear B V;go_wp2_with fail
    refine dy O kRf kRf ?_
    repeat (go_big_quiet_step ((go_at_call 129;refine cW (HF.out _ ?_);exact zbk)))
    refine wpQuiet_nil ?_;rintro w3 ⟨s,rfl⟩;have m3:=s.mod;go_wp2_with fail
    go_roundg (n+1-(k+1))
    case measure=>omega
    case rel=>exact⟨k+1,oMg,rfl,by go_num,J.out,m3⟩
   ·have Z:(0:Int)<=y:=oMg
    have J:=zbj (V.out (fun h=>hy (Hc.out.2 h)));clear B V;go_wp2_with fail
    refine dy O kRf kRf ?_
    repeat (go_big_quiet_step ((go_at_call 129;refine cW (HF.out _ ?_);exact zbk)))
    refine wpQuiet_nil ?_;rintro w3 ⟨s,rfl⟩;have m3:=s.mod;go_wp2_with fail
    (try rw[Exit.noGoto_ret])
    go_ret
    exact⟨by rw[J.out];rfl,m3⟩
  ·have Y:¬(k:Int)+1<(n:Int):=oMg
   have I:Hid (z=true):=by
    show _=_;rw[<-Hz.out];exact Kv fun j U=>E.out j U (by have:=Hl.out;omega)
   go_wp2_with fail
   go_ret
   exact⟨by rw[I.out];rfl,O⟩
end Go.Proofs.YtdfppjcaelghhaaGreatDoor
