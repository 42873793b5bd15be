/- Plain lemmas and contracts; the conditions are in each. -/
import Derived.Test.YtdfppjcaelghhaaGreatDoorMfCG
set_option maxRecDepth 8000
set_option maxHeartbeats 16000000
namespace Go.Proofs.YtdfppjcaelghhaaGreatDoor
open Go Go.Sl
abbrev cf (xs:List db):List (List UInt8):=xs.map de
def tY (L:qP):qP:=L.filter fun q => !gc q.1
def sV (D:aq):Nat:=eh D.files (tY D.now)
structure ki (D D':aq):Prop where
 size:D'.size=D.size
 now:∀s,gc s=false->br D'.now s=br D.now s
 file:∀s g f,gc s=false->br D.now s=some g->cw D.files g=some f->cw D'.files g=some f
 sure:(∀s,gc s=false->br D'.sure s=br D.sure s)\/(∀s,gc s=false->br D'.sure s=br D.now s)
 tot:sV D'<=sV D
theorem ki.refl (D:aq):ki D D:=⟨rfl,fun _ _=>rfl,fun _ _ _ _ _ h=>h,.inl fun _ _=>rfl,Zm _⟩
theorem ki.trans {D E z:aq}(h:ki D E)(h':ki E z):ki D z :=
 ⟨h'.size.trans h.size,fun s y=>(h'.now s y).trans (h.now s y),fun s g f y I J=>h'.file s g f y ((h.now s y).trans I) (h.file s g f y I J),by
   rcases h'.sure with B | B
   ·rcases h.sure with h2 | h2
    ·exact .inl fun s y=>(B s y).trans (h2 s y)
    ·exact .inr fun s y=>(B s y).trans (h2 s y)
   ·exact .inr fun s y=>(B s y).trans (h.now s y),Yl h'.tot h.tot⟩
theorem Ew {L:qP}(h:(L.map (·.1)).Nodup){s:ByteArray}{g:Nat}(I:(s,g)∈L):br L s=some g:=by
 cases J:br L s with
 | none=>exact absurd rfl (ot J (s,g) I)
 | some U =>
   have K:=fj J;obtain⟨i,M,B⟩:=ZI.1 I;obtain⟨j,O,y⟩:=ZI.1 K;have E:=Xm (h₀:=by simpa using M) (h₁:=by simpa using O) h;simp only[Xa,B,y]at E;have z:=E.1 trivial;subst z;rw[B]at y;injection y with _ y;rw[y]
theorem tW {L:qP}(h:(L.map (·.1)).Nodup):L.Nodup:=by
 induction L with
 | nil=>exact za3
 | cons q L z =>
   have h:=Yq.1 (show (q.1::L.map (·.1)).Nodup from h);exact Yq.2 ⟨fun y=>h.1 (ZC y),z h.2⟩
theorem vQ {L:qP}(h:(L.map (·.1)).Nodup):((tY L).map (·.1)).Nodup:=h.sublist (ZT.map _)
theorem yr {L:qP}(h:(L.map (·.1)).Nodup)(q:ByteArray×Nat):q∈tY L↔gc q.1=false/\br L q.1=some q.2:=by
 unfold tY;rw[ZB];constructor
 ·rintro⟨y,z⟩
  exact⟨by simpa using z,Ew h y⟩
 ·rintro⟨y,z⟩
  exact⟨fj z,by simp[y]⟩
theorem EA {L z:qP}(h:(L.map (·.1)).Nodup)(h':(z.map (·.1)).Nodup)(e:∀s,gc s=false->br z s=br L s):(tY z).Perm (tY L):=by
 refine(XO (tW (vQ h')) (tW (vQ h))).2 fun q=>?_;rw[yr h',yr h];constructor
 ·rintro⟨y,B⟩;exact⟨y,by rw[<-e _ y];exact B⟩
 ·rintro⟨y,B⟩;exact⟨y,by rw[e _ y];exact B⟩
theorem Ig (T:ep){L z:qP}(h:L.Perm z):eh T L=eh T z:=by
 induction h with
 | nil=>rfl
 | cons x _ B=>simp only[eh,B]
 | swap x y l=>simp only[eh];omega
 | trans _ _ h1 h2=>exact h1.trans h2
theorem uQ {T y:ep}:∀{L:qP},(∀q∈L,cw y q.2=cw T q.2)->eh y L=eh T L
 | [],_=>rfl
 | q::L,h=>by simp only[eh];rw[h q (Zj ..),uQ fun r z=>h r (Zh _ z)]
theorem yb (T:ep)(P:ByteArray×Nat->Bool):∀L:qP,eh T L=eh T (L.filter P)+eh T (L.filter fun q => !P q)
 | []=>rfl
 | q::L=>by
   have z:=yb T P L;cases y:P q
   ·rw[ZQ (by simp[y]),ZZ (by simp[y])]
    simp only[eh];omega
   ·rw[ZZ y,ZQ (by simp[y])]
    simp only[eh];omega
theorem Ke {D E:aq}(y:cJ D)(B:cJ E)(e:∀s,gc s=false->br E.now s=br D.now s)(f:∀s g f,gc s=false->br D.now s=some g->cw D.files g=some f->cw E.files g=some f):sV E=sV D:=by
 unfold sV;rw[Ig _ (EA y.keys B.keys e)];refine uQ fun q K=>?_;obtain⟨J,I⟩:=(yr y.keys q).1 K;obtain⟨M,z⟩:=YQ.1 (y.now q (fj I));rw[z];exact f _ _ _ J I z
theorem ki.over {D y:aq}(E:cJ D)(z:cJ y)(o:Over D y)(e:∀s,gc s=false->br y.now s=br D.now s)(I:y.sure=y.now):ki D y :=
 ⟨o.size,e,fun _ _ _ _ _ B=>o.files _ _ B,.inr fun s h=>by rw[I];exact e s h,Nat.le_of_eq (Ke E z e fun _ _ _ _ _ B=>o.files _ _ B)⟩
theorem ki.few {D z:aq}(h:ki D z)(B:cJ D)(y:cJ z)(n:Nat)(hn:(tY D.now).length<=n):(tY z.now).length<=n:=by
 rw[(EA B.keys y.keys h.now).length_eq];exact hn
structure jG (D:aq)(num:Nat)(xs:List db)(k:dk):Prop where
 disk:OC D num (cf xs)
 fold:xD ji xs=some k
 know:oz k
 each:∀x∈xs,yC x
 head:∀x∈xs,(de x).length<=65536
 tail:∀x∈xs.tail,(de x).length<=32768
 few:(tY D.now).length<=50
 OH:(tY D.sure).length<=50
theorem vO {L:qP}{s:ByteArray}{g:Nat}(h:(s,g)∈L):∃y,br L s=some y:=by
 cases z:br L s with
 | some y=>exact⟨y,rfl⟩
 | none=>exact absurd rfl (ot z (s,g) h)
theorem KQ {T:ep}:∀{L:qP}{a b:ByteArray}{g h:Nat}{f z:dr},(L.map (·.1)).Nodup->br L a=some g->br L b=some h->a≠b->cw T g=some f->cw T h=some z->(∀q∈L,q.1=a\/q.1=b)->eh T L<=f.bytes.length+z.bytes.length:=by
 intro L a b g h f z hn U V E Y J y;have M:=rZ T a g hn U;have K:((cG L a).map (·.1)).Nodup:=hn.sublist ((kT L a).map _);have I:br (cG L a) b=some h:=by rw[lD,if_neg (fun e=>E e.symm)];exact V
 have B:=rZ T b h K I
 have O:cG (cG L a) b=[]:=by
  unfold cG;rw[Y8,Yr];intro q Z;rcases y q Z with e | e <;> simp[e]
 rw[O]at B;rw[Y]at M;rw[J]at B;simp[eh]at M B;omega
theorem wM (P:ByteArray×Nat->Bool):∀L:qP,L.length=(L.filter P).length+(L.filter fun q => !P q).length
 | []=>rfl
 | q::L=>by
   have z:=wM P L;cases y:P q
   ·rw[ZQ (by simp[y]),ZZ (by simp[y])]
    simp only[List.length_cons];omega
   ·rw[ZZ y,ZQ (by simp[y])]
    simp only[List.length_cons];omega
theorem jG.two {D:aq}{num:Nat}{xs:List db}{k:dk}(h:jG D num xs k)(z:cJ D):D.now.length<=52:=by
 have M:(D.now.filter fun q=>gc q.1).length<=2:=by
  have y:((D.now.filter fun q=>gc q.1).map (·.1)) ⊆ [nM,cD num]:=by
   intro s K;obtain⟨q,J,rfl⟩:=Zz.1 K;obtain⟨B,E⟩:=ZB.1 J;rcases h.disk.own q B E with e | e <;> simp[e]
  have:=(z.keys.sublist (ZT.map _):((D.now.filter fun q=>gc q.1).map (·.1)).Nodup).length_le_of_subset y;simpa using this
 have O:=wM (fun q=>gc q.1) D.now;have I:=h.few;unfold tY at I;omega
theorem jG.used {D:aq}{num:Nat}{xs:List db}{k:dk}(h:jG D num xs k)(y:cJ D):eh D.files D.now<=(cD num).size+(al [] (cf xs)).length+sV D:=by
 obtain⟨U,O,B,E,I,J,_,_⟩:=h.disk.ex;have K:br (D.now.filter fun q=>gc q.1) nM=some U:=by rw[lw,if_pos EC];exact B
 have M:br (D.now.filter fun q=>gc q.1) (cD num)=some O:=by rw[lw,if_pos (pq num)];exact E
 have:=KQ (y.keys.sublist (ZT.map _)) K M (fun e=>pi num e.symm) I J (fun q z=>h.disk.own q (ZB.1 z).1 (ZB.1 z).2);have V:=yb D.files (fun q=>gc q.1) D.now;unfold sV tY;simp only[show (cD num).data.toList.length=(cD num).size from Array.length_toList]at this;omega
theorem jG.LH {D:aq}{num:Nat}{xs:List db}{k:dk}(h:jG D num xs k)(y:cJ D):(al [] (cf xs)).length<=1048576:=by
 obtain⟨K,J,B,E,I,z,_,_⟩:=h.disk.ex;exact y.len _ (jo _ _ _ z)
theorem Nw {k:dk}(y:oz k)(z:k.files.length<=1100000):yC k.whole :=
 ⟨y.fine,y.nums,by simp[dk.whole],by show k.files.length<_;omega,by simp[dk.whole],y.al,y.next,y.seq⟩
theorem jG.begun {D:aq}{num E I:Nat}{xs:List db}{k:dk}(h:jG D num xs k)(U:k.files.length<=1100000)(K:∀r∈[de k.whole],r.length<=65536)
 (M:cw D.files E=none) (O:cw ((E,(⟨al [] [de k.whole],(al [] [de k.whole]).length⟩:dr))::D.files) I=none) (z:cJ D) (y:cJ (lm (gO D (cD (num+1)) (al [] [de k.whole]) E I 7) (cD (num+1)))) :
 ki D (lm (gO D (cD (num+1)) (al [] [de k.whole]) E I 7) (cD (num+1)))/\jG (lm (gO D (cD (num+1)) (al [] [de k.whole]) E I 7) (cD (num+1))) (num+1) [k.whole] k:=by
 obtain⟨V,Y,Z⟩:=Dw (D:=D) (num:=num+1) (rs:=[de k.whole]) M O;have J:=ki.over z y Y Z rfl;exact⟨J,V,Gc h.know,h.know,fun x B=>(by rw[ZE]at B;subst B;exact Nw h.know U),fun x B=>(by rw[ZE]at B;subst B;exact K _ (ZE.2 rfl)),fun x B=>(by cases B),J.few z y 50 h.few,J.few z y 50 h.few⟩
theorem jG.failed {D y:aq}{num:Nat}{xs:List db}{k:dk}(h:jG D num xs k)(o:Over D y)(z:y.now=D.now)(B:y.sure=D.now):jG y num xs k :=
 ⟨Jp h.disk o z B,h.fold,h.know,h.each,h.head,h.tail,by rw[z];exact h.few,by rw[B];exact h.few⟩
theorem ki.failed {D y:aq}(B:cJ D)(o:Over D y)(E:y.now=D.now)(I:y.sure=D.now):ki D y :=
 ⟨o.size,fun s _=>by rw[E],fun _ _ _ _ _ z=>o.files _ _ z,.inr fun s _=>by rw[I],by
   unfold sV;rw[E,uQ (T:=D.files) fun q J=>?_]
   ·exact Zm _
   ·obtain⟨f,z⟩:=YQ.1 (B.now q (ZB.1 J).1)
    rw[z];exact o.files _ _ z⟩
theorem n8 {α β:Type}{f:α->β}{l:List α}(h:(l.map f).Nodup){a b:α}(B:a∈l)(E:b∈l)(e:f a=f b):a=b:=by
 obtain⟨i,I,rfl⟩:=ZI.1 B;obtain⟨j,J,rfl⟩:=ZI.1 E;have z:=Xm (h₀:=by simpa using I) (h₁:=by simpa using J) h;simp only[Xa]at z;have y:=z.1 e;subst y;rfl
theorem jG.added {D:aq}{num K:Nat}{xs:List db}{k k':dk}{x:db}(h:jG D num xs k)(I:(D.now.map (·.2)).Nodup)(J:yC x)(hd:wz k x=some k')(hl:(de x).length<=32768)(Y:br D.now (cD num)=some K)(hf:cw D.files K=some ⟨al [] (cf xs),(al [] (cf xs)).length⟩) :
 jG {D with files:=iS D.files K ⟨al [] (cf (xs++[x])),(al [] (cf (xs++[x]))).length⟩} num (xs++[x]) k':=by
 obtain⟨O,E,V,M,Z,a4,a5,a6⟩:=h.disk.ex;have e:E=K:=by rw[M]at Y;exact X5 Y
 subst e
 have U:O≠E:=fun e=>by
  subst e;have:=n8 (f:=(·.2)) I (fj V) (fj M) rfl;exact pi num (congrArg Prod.fst this).symm
 refine⟨⟨⟨O,E,V,M,?_,?_,a5,a6⟩,h.disk.own,h.disk.Of⟩,?_,(NZ h.know ⟨J.nums,J.al,J.next,J.seq⟩ hd).1,?_,?_,?_,h.few,h.OH⟩
 ·show cw (iS D.files E _) O=_
  rw[jX _ _ _ _ U];exact Z
 ·show cw (iS D.files E _) E=_
  exact jK _ _ _ _ a4
 ·rw[zq,h.fold];exact hd
 ·intro y B
  rcases ZA.1 B with B | B
  ·exact h.each y B
  ·rw[ZE]at B;subst B;exact J
 ·intro y B
  rcases ZA.1 B with B | B
  ·exact h.head y B
  ·rw[ZE]at B;subst B;omega
 ·intro y B
  cases xs with
  | nil=>cases B
  | cons z xs =>
    rw[List.cons_append,List.tail_cons,ZA]at B;rcases B with B | B
    ·exact h.tail y B
    ·rw[ZE]at B;subst B;exact hl
theorem ki.put {D:aq}{y:Nat}{s:ByteArray}(U:(D.now.map (·.1)).Nodup)(O:(D.now.map (·.2)).Nodup)(E:gc s=true)(M:br D.now s=some y)(v:dr):ki D {D with files:=iS D.files y v}:=by
 have B:∀t g,gc t=false->br D.now t=some g->g≠y:=fun t g ht z e=>by
  subst e;have:=n8 (f:=(·.2)) O (fj M) (fj z) rfl;injection this with this _;rw[this,ht]at E;cases E
 refine⟨rfl,fun _ _=>rfl,fun t g f ht z K=>by show cw (iS D.files y v) g=_;rw[jX _ _ _ _ (B t g ht z)];exact K,.inl fun _ _=>rfl,?_⟩;show eh (iS D.files y v) (tY D.now)≤_;rw[th]
 ·exact Zm _
 ·intro z
  obtain⟨q,V,e⟩:=Zz.1 z;obtain⟨I,J⟩:=(yr U q).1 V;exact B _ _ I J e
theorem jG.short {D:aq}{num:Nat}{xs:List db}{k:dk}(h:jG D num xs k)(hn:xs.length<=16):(al [] (cf xs)).length<=613200:=by
 cases xs with
 | nil=>simp[cf,al]
 | cons z xs =>
   have e:al [] (cf (z::xs))=al ([]++fz ([]:List UInt8).length true (de z)) (cf xs):=rfl;rw[e]
   have B:=sO (cf xs) ([]++fz ([]:List UInt8).length true (de z)) 32768 fun r J=>by
    obtain⟨y,K,rfl⟩:=Zz.1 J;exact h.tail y K
   have E:=qN ([]:List UInt8).length true (de z);have M:=h.head z (Zj ..);rw[Ze]at B;have I:(cf xs).length<=15:=by simp only[cf,ZW];simp at hn;omega
   have O:=Xw (11*32768+210) I;simp only[List.length_nil,List.nil_append]at B E ⊢;omega
def Roomy (D:aq)(xs:List db)(x:db):Prop:=2000000+sV D<=D.size\/(100000+sV D<=D.size/\(al [] (cf xs)).length<=20000/\(de x).length<=5000)
theorem jG.left {D:aq}{num:Nat}{xs:List db}{k:dk}(h:jG D num xs k)(y:cJ D)(pZ:num<4294967296):D.size-12-(al [] (cf xs)).length-sV D<=leftOf D:=by
 have z:=h.used y;have B:=l8 pZ;unfold leftOf;omega
theorem jG.fits {D B:aq}{num:Nat}{xs y:List db}{k:dk}{x:db}(h:jG D num xs k)(z:cJ D)(E:Roomy B y x)(I:ki B D)(J:(al [] (cf y)).length<=20000->(al [] (cf xs)).length<=20000)(pZ:num<4294967296)(hn:xs.length<=16)(Z:(de x).length<=32768):tQ D (al [] (cf xs)).length (de x):=by
 have M:=h.left z pZ;have O:=h.short hn;have U:=qN (al [] (cf xs)).length true (de x);have V:=I.size;have Y:=I.tot;rcases E with E | ⟨r1,K,r3⟩
 ·exact⟨oMg,oMg,oMg⟩
 ·have:=J K
  exact⟨oMg,oMg,oMg⟩
theorem E8 (l:List bi)(z:∀f∈l,oC f=true)(hn:∀f∈l,f.num<4294967296):(l.flatMap lI).length<=l.length*104:=by
 induction l with
 | nil=>simp
 | cons f l B =>
   rw[Zp,Ze,List.length_cons,zbi];have E:=wE (z f (Zj ..)) (hn f (Zj ..));have I:=B (fun g y=>z g (Zh _ y)) fun g y=>hn g (Zh _ y);omega
theorem CF {k:dk}(y:oz k)(B:k.files.length<=30):(de k.whole).length<=4000:=by
 have z:=E8 k.files ((oV _).1 y.fine) y.nums;have E:=cN (n:=k.files.length) oMg;have I:=cN (n:=0) oMg;have J:=cN (n:=k.al) (by have:=y.al;omega);have K:=cN (n:=k.next) (by have:=y.next;omega);have M:=cN (n:=k.seq) y.seq;unfold de dk.whole;simp only[Ze,Yv,List.length_nil];omega
theorem Bc {k:dk}(E:oz k)(I:k.files.length<=30):(al [] [de k.whole]).length<=4421:=by
 have z:=CF E I;have B:=sO [de k.whole] [] 4000 fun r y=>by rw[ZE]at y;subst y;exact z
 simp only[List.length_nil,List.length_singleton]at B;omega
theorem jG.fine {D:aq}{num:Nat}{xs:List db}{k:dk}{x:db}(h:jG D num xs k)(y:cJ D)(z:Roomy D xs x)(pZ:num+1<4294967296)(B:k.files.length<=30):BI D (cD (num+1)) [de k.whole]:=by
 have E:=h.left y oMg;have I:=CF h.know B;have J:=Bc h.know B;have K:=l8 pZ;have M:=h.LH y;refine⟨fun r z=>by rw[ZE]at z;subst z;omega,oMg,?_⟩;rcases z with z | ⟨O,U,V⟩
 ·omega
 ·omega
open Go.RowKit Go.Sl
abbrev fL (mp p jj num many:Nat)(A:Option Addr)(c:Nat)(k:dk)(D:aq)(y:Nat)(G:ba):ba :=
 bv p D*(gA mp p (ap jj) num many (.slice A k.files.length k.files.length) k.nums*(dt jj p (cD num) y*(kJ A c k.files*G)))
section
variable (mp p jj num many:Nat)(A:Option Addr)(c:Nat)(k:dk)(D:aq)(xs:List db)(w w0:World)(G:ba)
theorem yq (y:Nat):fL mp p jj num many A c k D y G=gA mp p (ap jj) num many (.slice A k.files.length k.files.length) k.nums*(kJ A c k.files*(bv p D*(dt jj p (cD num) y*G))):=by unfold fL;ac_rfl
theorem qA (y:Nat):fL mp p jj num many A c k D y G=bv p D*(dt jj p (cD num) y*(gA mp p (ap jj) num many (.slice A k.files.length k.files.length) k.nums*(kJ A c k.files*G))):=by unfold fL;ac_rfl
theorem Fm (y:Nat)(m:Mod w w0 (fL mp p jj num many A c k D y G))(J:oz k)(hlen:k.files.length<=1100000) :
 Calls Tryz.prog 123 #[ap mp] w fun e z=>∃g R,e=.returned (.slice (some ⟨g,0,none⟩) 1 1)/\jt R (some ⟨g,0,none⟩) 1 [de k.whole]/\Mod z w0 (fL mp p jj num many A c k D y (R*G)):=by
 rw[yq]at m;refine(Er mp p (ap jj) num many A c k w w0 _ m J hlen).mono fun e z ⟨g,R,B,E,I⟩=>⟨g,R,B,E,?_⟩;exact Mod.to (m:=I) (by unfold fL;ac_rfl)
def NN (num:Nat)(k:dk)(D:aq)(xs:List db)(E:Int)(B:aq)(y:Nat)(z:List db):Prop :=
 jG B y z k/\ki D B/\y<=num+1/\((E=0/\z=[k.whole])\/(E=6/\z=xs/\¬BI D (cD (num+1)) [de k.whole]))
theorem jG.free {D:aq}{num:Nat}{xs:List db}{k:dk}(h:jG D num xs k)(pZ:num+1<4294967296):br D.now (cD (num+1))=none/\br D.now fY=none:=by
 constructor
 ·cases y:br D.now (cD (num+1))with
  | none=>rfl
  | some g =>
    rcases h.disk.own _ (fj y) (pq _)with e | e
    ·exact absurd e (pi _)
    ·have:=L6 pZ oMg e;omega
 ·cases y:br D.now fY with
  | none=>rfl
  | some g =>
    rcases h.disk.own _ (fj y) IE with e | e
    ·exact absurd e.symm IR
    ·exact absurd e.symm (oQ _)
theorem Dv (m0:Nat)(R:ba)(g:Nat)(m:Mod w w0 (fL mp p jj num m0 A c k D (al [] (cf xs)).length (R*G)))(U:m0=xs.length)(r:jt R (some ⟨g,0,none⟩) 1 [de k.whole])(tab:fX G)(h:jG D num xs k)(pZ:num+1<4294967296)(hlen:k.files.length<=1100000) :
 Calls Tryz.prog 104 #[ap mp,.slice (some ⟨g,0,none⟩) 1 1] w fun e w'=>∃(Z:Int)(K:aq)(B y:Nat)(E:List db),e=.returned (.int .i64 Z)/\NN num k D xs Z K y E /\
  Mod w' w0 (fL mp p B y E.length A c k K (al [] (cf E)).length G):=by
 subst U;have m1:Mod w w0 (bv p D*(gA mp p (ap jj) num xs.length (.slice A k.files.length k.files.length) k.nums*(R*(dt jj p (cD num) (al [] (cf xs)).length*(kJ A c k.files*G))))):=Mod.to (m:=m) (by unfold fL;ac_rfl);have z:=p7 (F:=gA mp p (ap jj) num xs.length (.slice A k.files.length k.files.length) k.nums*(R*(dt jj p (cD num) (al [] (cf xs)).length*(kJ A c k.files*G)))) m1 ⟨rfl⟩;obtain⟨h1,h2⟩:=h.free pZ;refine(xK mp p (ap jj) num xs.length _ k.nums D (some ⟨g,0,none⟩) 1 1 [de k.whole] w w0 _ m1 (r.lift zbk) (tab.lift zbk) pZ h1 h2 (by have:=h.two z;omega) oMg).mono fun e w' hb=>?_;rcases hb with⟨rfl,Y,B,g1,g2,M,O,J⟩ | ⟨rfl,V,K,M,O,J,q4⟩
 ·have I:cJ (lm (gO D (cD (num+1)) (al [] [de k.whole]) g1 g2 7) (cD (num+1))):=p7 J ⟨rfl⟩
  obtain⟨hE,hI⟩:=h.begun hlen Y M O z I;refine⟨0,_,B,num+1,[k.whole],rfl,⟨hI,hE,Zm _,.inl ⟨rfl,rfl⟩⟩,?_⟩;exact Mod.drop (A:=R*dt jj p (cD num) (al [] (cf xs)).length) (m:=Mod.to (m:=J) (by unfold fL;ac_rfl))
 ·refine⟨6,K,jj,num,xs,rfl,⟨h.failed M O J,ki.failed z M O J,Nat.le_succ _,.inr ⟨rfl,rfl,V⟩⟩,?_⟩
  exact Mod.drop (A:=R) (m:=Mod.to (m:=q4) (by unfold fL;ac_rfl))
def EG (D:aq)(y:Nat)(rs:List (List UInt8))(b:List UInt8):aq:={D with files:=iS D.files y ⟨al [] (rs++[b]),(al [] rs).length⟩}
def tf (D:aq)(y:Nat)(rs:List (List UInt8)):aq:={D with files:=iS D.files y ⟨al [] rs,(al [] rs).length⟩}
theorem NW (b:List UInt8)(B:Option Addr)(z y:Nat)(m:Mod w w0 (fL mp p jj num many A c k D (al [] (cf xs)).length G))(pZ:num<4294967296)(r:bk G B b.length (b7 b))(V:b.length<=z)
 (Y:br D.now (cD num)=some y) (O:cw D.files y=some ⟨al [] (cf xs),(al [] (cf xs)).length⟩) :
 Calls Tryz.prog 33 #[ap jj,.slice B b.length z] w fun e M=>(tQ D (al [] (cf xs)).length b/\e=.returned (.int .i64 0)/\Mod M w0 (fL mp p jj num many A c k (EG D y (cf xs) b) (al [] (cf xs++[b])).length G)) \/
  (¬tQ D (al [] (cf xs)).length b/\∃r:Int,(r=3\/r=6)/\e=.returned (.int .i64 r)/\Mod M w0 (fL mp p jj num many A c k D (al [] (cf xs)).length G)):=by
 have E:=p7 (F:=gA mp p (ap jj) num many (.slice A k.files.length k.files.length) k.nums*(dt jj p (cD num) (al [] (cf xs)).length*(kJ A c k.files*G))) m ⟨rfl⟩;have Z:(cD num).size<=9223372036854775807:=by have:=l8 pZ;omega
 rw[qA]at m;refine(In jj p D (cD num) w w0 _ B z b y ⟨al [] (cf xs),(al [] (cf xs)).length⟩ Z (Dd pZ) Y O m (ct zbk r) V (E.len _ (jo _ _ _ O))).mono fun e M U=>?_;rcases U with⟨I,J,K⟩ | ⟨I,r',q3,J,K⟩
 ·refine .inl ⟨I,J,?_⟩
  rw[qA];unfold EG;rw[mP];exact K
 ·refine .inr ⟨I,r',q3,J,?_⟩
  rw[qA];exact K
theorem Np (b:List UInt8)(y:Nat)(m:Mod w w0 (fL mp p jj num many A c k (EG D y (cf xs) b) (al [] (cf xs++[b])).length G))(pZ:num<4294967296)
 (I:br D.now (cD num)=some y) (E:cw D.files y=some ⟨al [] (cf xs),(al [] (cf xs)).length⟩) :
 Calls Tryz.prog 43 #[ap jj] w fun e z=>e=.returned (.int .i64 0)/\Mod z w0 (fL mp p jj num many A c k (tf D y (cf xs++[b])) (al [] (cf xs++[b])).length G):=by
 have J:(cD num).size<=9223372036854775807:=by have:=l8 pZ;omega
 rw[qA]at m;refine(uA jj p (EG D y (cf xs) b) (cD num) w w0 _ _ m J (Dd pZ) y ⟨al [] (cf xs++[b]),(al [] (cf xs)).length⟩ I (jK _ _ _ _ E)).mono fun e z ⟨K,M⟩=>⟨K,?_⟩;rw[qA]
 have B:({EG D y (cf xs) b with files:=iS (EG D y (cf xs) b).files y ⟨al [] (cf xs++[b]),(al [] (cf xs++[b])).length⟩}:aq)=tf D y (cf xs++[b]):=by
  unfold EG tf;simp only[B8]
 rw[<-B];exact M
theorem MT (y:Nat)(L:xb)(x:db)(k':dk)(m:Mod w w0 (fL mp p jj num many A c k D y G))(r:kW G L x)(hd:wz k x=some k')(hlen:k.files.length<=100000000) :
 Calls Tryz.prog 111 #[ap mp,.agg (jW L x)] w fun e z=>e=.returned (.int .i64 0)/\∃A' c',k'.files.length<=c'/\Mod z w0 (fL mp p jj num many A' c' k' D y G):=by
 rw[yq]at m;have:=GB mp p (ap jj) num many A c k L x w w0 _ m (r.lift zbk) hlen;rw[hd]at this;refine this.mono fun e z ⟨B,A',c',E,I⟩=>⟨B,A',c',E,?_⟩;rw[yq];exact I
end
open Go.RowKit Go.Sl
attribute [local go_sem] ab bj bh bd
def nU (D:aq)(k:dk)(xs:List db)(x:db):Prop:=kh x.added=true/\(de x).length<=32768/\(∃k',wz k x=some k')/\Roomy D xs x/\k.files.length<=30
def qO (mp p num:Nat)(k:dk)(D:aq)(xs:List db)(x:db)(w0:World)(F:ba)(e:Ending)(J:World):Prop :=
 ∃(r:Int)(B:aq)(y:Nat)(z:List db)(k':dk)(E:Nat)(A':Option Addr)(c':Nat),e=.returned (.int .i64 r)/\jG B y z k'/\ki D B/\y<=num+2 /\
  ((r=0/\wz k x=some k'/\∃I,z=I++[x]/\(nU D k xs x->(al [] (cf xs)).length<=20000->(al [] (cf I)).length<=20000))\/(r≠0/\k'=k/\¬nU D k xs x/\(kh x.added=true->(de x).length<=32768->wz k x=none->r=1)))/\k'.files.length<=c'/\Mod J w0 (fL mp p E y z.length A' c' k' B (al [] (cf z)).length F)
section
variable (mp p jj num:Nat)(A:Option Addr)(c:Nat)(k:dk)(D:aq)(xs:List db)(L:xb)(x:db)(w w0:World)(F:ba)
 (m:Mod w w0 (fL mp p jj num xs.length A c k D (al [] (cf xs)).length F)) (h:jG D num xs k) (r:kW F L x) (hlen:k.files.length+x.added.length<=1100000) (hcap:k.files.length<=c)
include m h r hcap
theorem JY (E:kh x.added=false):Calls Tryz.prog 75 #[ap mp,.agg (jW L x)] w (qO mp p num k D xs x w0 F):=by
 obtain⟨B,y⟩:∃B,B=fL mp p jj num xs.length A c k D (al [] (cf xs)).length F:=⟨_,rfl⟩;have V:=zbj (fun(u:World)(S:ba)(O:Mod u w0 S)(s:Sub S B)=>qo L x u w0 S O ((r.lift (by rw[y];infer_instance:Sub B F)).lift s));have aa:jq B mp (.cells #[ap p,ap jj,.int .u32 (num:Int),.int .i64 (xs.length:Int),.slice A k.files.length k.files.length,.slice none 0 0,.slice none 0 0,.int .u32 (k.al:Int),.int .u32 (k.next:Int),.int .u64 (k.seq:Int),.bool true] 152 (0,0)):=by rw[y];unfold fL gA dk.nums;infer_instance
 rw[<-y]at m;have M:=zbj y
 have J:∀S e U,ts x S w0 e U->e=.returned (.tuple #[.slice none 0 0,.int .i64 1])/\Mod U w0 S:=fun S e U h=>by
  rcases h with⟨_,h⟩ | ⟨h,_⟩
  ·exact h
  ·rw[E]at h;cases h
 have K:=zbj J;clear y J
 have I:Hid (∀u,Mod u w0 B->qO mp p num k D xs x w0 F (.returned (.int .i64 1)) u):=fun u O =>
  ⟨1,D,num,xs,k,jj,A,c,rfl,h,ki.refl D,oMg,.inr ⟨by decide,rfl,fun Z=>(by rw[Z.1]at E;cases E),fun hh=>(by rw[hh]at E;cases E)⟩,hcap,by rw[<-M.out];exact O⟩
 clear h r E;obtain⟨aA,aC,rA,rC⟩:=L;obtain⟨Y,rm,jn,nx,sq⟩:=x;show Calls Tryz.prog _ #[_,.agg #[.slice aA Y.length aC,.slice rA rm.length rC,.int .u32 (jn:Int),.int .u32 (nx:Int),.int .u64 (sq:Int)]] _ _;go_enter Tryz.func75,Tryz.ntmps75
 go_wp2_with (go_at_call 121;refine(V.out _ _ zbk zbk).mono ?_;intro e w1 z;obtain⟨rfl,m1⟩:=K.out _ _ _ z;clear z)
 go_ret
 exact I.out _ (Mod.sub B (m:=m1))
theorem JZ (Y:kh x.added=true)(I:32768<(de x).length):Calls Tryz.prog 75 #[ap mp,.agg (jW L x)] w (qO mp p num k D xs x w0 F):=by
 obtain⟨E,y⟩:∃E,E=fL mp p jj num xs.length A c k D (al [] (cf xs)).length F:=⟨_,rfl⟩;have HP:=zbj (fun(u:World)(S:ba)(U:Mod u w0 S)(s:Sub S E)=>qo L x u w0 S U ((r.lift (by rw[y];infer_instance:Sub E F)).lift s));have aa:jq E mp (.cells #[ap p,ap jj,.int .u32 (num:Int),.int .i64 (xs.length:Int),.slice A k.files.length k.files.length,.slice none 0 0,.slice none 0 0,.int .u32 (k.al:Int),.int .u32 (k.next:Int),.int .u64 (k.seq:Int),.bool true] 152 (0,0)):=by rw[y];unfold fL gA dk.nums;infer_instance
 rw[<-y]at m;have O:=zbj y;obtain⟨z,Z⟩:∃z,(de x).length=z:=⟨_,rfl⟩
 have K:∀S e V,ts x S w0 e V->∃A c,e=.returned (.tuple #[.slice A z c,.int .i64 0])/\Mod V w0 (ar 5 1 (.slice A z c) z (b7 (de x))*S):=fun S e V h=>by
  rcases h with⟨h,_⟩ | ⟨_,h⟩
  ·rw[Y]at h;cases h
  ·rw[Z]at h;exact h
 have M:=zbj K;clear y K
 have J:Hid (∀u,Mod u w0 E->qO mp p num k D xs x w0 F (.returned (.int .i64 3)) u):=fun u U =>
  ⟨3,D,num,xs,k,jj,A,c,rfl,h,ki.refl D,oMg,.inr ⟨by decide,rfl,fun hg=>(by have:=hg.2.1;omega),fun _ hh=>absurd hh oMg⟩,hcap,by rw[<-O.out];exact U⟩
 have ae:(32768:Int)<(z:Int):=oMg
 clear h r I Z Y;obtain⟨aA,aC,rA,rC⟩:=L;obtain⟨fa,rm,jn,nx,sq⟩:=x;show Calls Tryz.prog _ #[_,.agg #[.slice aA fa.length aC,.slice rA rm.length rC,.int .u32 (jn:Int),.int .u32 (nx:Int),.int .u64 (sq:Int)]] _ _;go_enter Tryz.func75,Tryz.ntmps75
 go_wp2_with (go_at_call 121;refine(HP.out _ _ zbk zbk).mono ?_;intro e w1 B;obtain⟨A1,c1,rfl,m1⟩:=M.out _ _ _ B;clear B)
 go_ret
 exact J.out _ (Mod.sub E (m:=m1))
include hlen in
theorem M2 (hf:kh x.added=true)(J:(de x).length<=32768)(E:wz k x=none):Calls Tryz.prog 75 #[ap mp,.agg (jW L x)] w (qO mp p num k D xs x w0 F):=by
 obtain⟨B,y⟩:∃B,B=fL mp p jj num xs.length A c k D (al [] (cf xs)).length F:=⟨_,rfl⟩;have HP:=zbj (fun(u:World)(S:ba)(Z:Mod u w0 S)(s:Sub S B)=>qo L x u w0 S Z ((r.lift (by rw[y];infer_instance:Sub B F)).lift s));have af:jq B mp (.cells #[ap p,ap jj,.int .u32 (num:Int),.int .i64 (xs.length:Int),.slice A k.files.length k.files.length,.slice none 0 0,.slice none 0 0,.int .u32 (k.al:Int),.int .u32 (k.next:Int),.int .u64 (k.seq:Int),.bool true] 152 (0,0)):=by rw[y];unfold fL gA dk.nums;infer_instance
 have rk:du B A k.files.length k.files:=(kR A c k.files).lift (by rw[y];unfold fL;infer_instance);have K:Sub B F:=by rw[y];infer_instance
 rw[<-y]at m;have ae:=zbj y;obtain⟨z,hz⟩:∃z,(de x).length=z:=⟨_,rfl⟩
 have O:∀S e w',ts x S w0 e w'->∃A c,e=.returned (.tuple #[.slice A z c,.int .i64 0])/\Mod w' w0 (ar 5 1 (.slice A z c) z (b7 (de x))*S):=fun S e w' h=>by
  rcases h with⟨h,_⟩ | ⟨_,h⟩
  ·rw[hf]at h;cases h
  ·rw[hz]at h;exact h
 have aa:=zbj O;clear y O
 have M:Hid (∀u,Mod u w0 B->qO mp p num k D xs x w0 F (.returned (.int .i64 1)) u):=fun u Z =>
  ⟨1,D,num,xs,k,jj,A,c,rfl,h,ki.refl D,oMg,.inr ⟨by decide,rfl,fun hg=>(by obtain⟨_,_,⟨k',V⟩,_⟩:=hg;rw[E]at V;cases V),fun _ _ _=>rfl⟩,hcap,by rw[<-ae.out];exact Z⟩
 have ag:¬(32768:Int)<(z:Int):=oMg
 obtain⟨aA,aC,rA,rC⟩:=L;obtain⟨fa,rm,jn,nx,sq⟩:=x;have Y:k.files.length<=100000000:=oMg
 have HD:=zbj (fun(u:World)(S:ba)(Z:Mod u w0 S)(s:Sub S B)=>y8 A k.files.length k.files.length k.files aA fa.length aC rA rm.length rC fa rm jn nx sq u w0 S Z (rk.lift s) Y ((r.added.lift K).lift s) r.JP ((r.removed.lift K).lift s) r.JQ)
 have U:FT k.files ⟨fa,rm,jn,nx,sq⟩=none:=by
  unfold wz at E;exact Option.map_eq_none_iff.1 E
 rw[U]at HD;clear h r hlen J hz rk K U E hf Y;show Calls Tryz.prog _ #[_,.agg #[.slice aA fa.length aC,.slice rA rm.length rC,.int .u32 (jn:Int),.int .u32 (nx:Int),.int .u64 (sq:Int)]] _ _;go_enter Tryz.func75,Tryz.ntmps75
 go_wp2_with (go_at_call 121;refine(HP.out _ _ zbk zbk).mono ?_;intro e w1 I;obtain⟨A1,c1,rfl,m1⟩:=aa.out _ _ _ I;clear I)
 go_region_with (go_at_call 122;refine(HD.out _ _ zbk zbk).mono ?_;rintro e w2 ⟨rfl,m2⟩)
 all_goals (go_wp2_with fail)
 all_goals go_ret
 all_goals exact M.out _ (Mod.sub B (m:=m2))
end
open Go.RowKit Go.Sl
attribute [local go_sem] ab bj bh bd
theorem tS:∀(l:List (List UInt8))(a:List UInt8),a.length+l.length<=(al a l).length
 | [],a=>by simp[al]
 | r::l,a=>by
   rw[mO];have y:=tS l (a++fz a.length true r);have z:=MF a.length true r;rw[Ze]at y;rw[List.length_cons];omega
theorem Mod.weak {w w0:World}{X G F:ba}(m:Mod w w0 (X*G))(s:Sub G F):Mod w w0 (X*F):=⟨m.os,m.tape,m.output,by
 have h:=m.says;rw[bo]at h ⊢;obtain⟨a,b,y,z,B,E⟩:=h
 exact⟨a,b,y,z,B,s.sub _ E⟩⟩
theorem Cp {mp p jj num many:Nat}{A:Option Addr}{c:Nat}{k:dk}{D:aq}{y:Nat}{w w0:World}{G F:ba}(m:Mod w w0 (fL mp p jj num many A c k D y G))(s:Sub G F):Mod w w0 (fL mp p jj num many A c k D y F):=by
 have e:∀G,fL mp p jj num many A c k D y G=(bv p D*(gA mp p (ap jj) num many (.slice A k.files.length k.files.length) k.nums*(dt jj p (cD num) y*kJ A c k.files)))*G:=fun G=>by unfold fL;ac_rfl
 rw[e]at m ⊢;exact Mod.weak m s
section
variable (mp p jj num:Nat)(A:Option Addr)(c:Nat)(k k':dk)(D:aq)(xs:List db)(x:db)(w w0:World)(G:ba)
def O1 (num:Nat)(k:dk)(D:aq)(xs:List db)(x:db)(B:aq)(y:Nat)(z:List db):Prop :=
 jG B y z k/\ki D B/\y<=num+1/\(nU D k xs x->z.length<=16/\((al [] (cf xs)).length<=20000->(al [] (cf z)).length<=20000))
def OD (num:Nat)(k:dk)(D:aq)(xs:List db)(x:db)(r:Int)(B:aq)(z:Nat)(y:List db)(I:aq)(J:Nat):Prop :=
 jG B z y k/\ki D B/\z<=num+2/\(nU D k xs x->(al [] (cf xs)).length<=20000->(al [] (cf y)).length<=20000)/\∃E,br B.now (cD z)=some E/\cw B.files E=some ⟨al [] (cf y),(al [] (cf y)).length⟩ /\
  ((r=0/\I=EG B E (cf y) (de x)/\J=(al [] (cf y++[de x])).length)\/(r≠0/\I=B/\J=(al [] (cf y)).length/\¬nU D k xs x))
theorem Ex {J:aq}{y:Nat}{z:List db}{E:Nat}(hA:jG J y z k/\ki D J/\y<=num+2/\(nU D k xs x->z.length<=16/\((al [] (cf xs)).length<=20000->(al [] (cf z)).length<=20000)))(K:y<4294967296)(B:Option Addr)(Y:Nat)(r:bk G B (de x).length (b7 (de x)))(hc:(de x).length<=Y)
 (m:Mod w w0 (fL mp p E y z.length A c k J (al [] (cf z)).length G)) :
 Calls Tryz.prog 33 #[ap E,.slice B (de x).length Y] w fun e w'=>∃(r:Int)(D2:aq)(en:Nat),e=.returned (.int .i64 r)/\OD num k D xs x r J y z D2 en/\Mod w' w0 (fL mp p E y z.length A c k D2 en G):=by
 obtain⟨M,h2,h3,O⟩:=hA;obtain⟨gm,Z,a1,U,a3,V,a5,a6⟩:=M.disk.ex;have aa:=p7 (F:=gA mp p (ap E) y z.length (.slice A k.files.length k.files.length) k.nums*(dt E p (cD y) (al [] (cf z)).length*(kJ A c k.files*G))) m ⟨rfl⟩;refine(NW mp p E y z.length A c k J z w w0 G (de x) B Y Z m K r hc U V).mono fun e w' hb=>?_;rcases hb with⟨_,q1,q2⟩ | ⟨q0,r',q3,q1,q2⟩
 ·exact⟨0,_,_,q1,⟨M,h2,h3,fun I=>(O I).2,Z,U,V,.inl ⟨rfl,rfl,rfl⟩⟩,q2⟩
 ·refine⟨r',_,_,q1,⟨M,h2,h3,fun I=>(O I).2,Z,U,V,.inr ⟨oMg,rfl,rfl,fun I=>q0 ?_⟩⟩,q2⟩
  exact M.fits aa I.2.2.2.1 h2 (O I).2 K (O I).1 I.2.1
theorem J2 {mp p jj num many:Nat}{A:Option Addr}{c:Nat}{k:dk}{D:aq}{z:Nat}{w w0:World}{G:ba}(y:Nat)(m:Mod w w0 (fL mp p jj num many A c k D z G)) :
 Mod (w.setCell ⟨mp,3,none⟩ (.int .i64 (y:Int))) w0 (fL mp p jj num y A c k D z G):=by
 rw[yq]at m ⊢;unfold gA at m;exact Mod.setCells (m:=m) (g:=mp) (i:=3) (.int .i64 (y:Int)) (t:=⟨rfl⟩)
end
section
variable (mp p jj num:Nat)(A:Option Addr)(c:Nat)(k k':dk)(D:aq)(xs:List db)(L:xb)(x:db)(w w0:World)(F:ba)
 (m:Mod w w0 (fL mp p jj num xs.length A c k D (al [] (cf xs)).length F)) (h:jG D num xs k) (r:kW F L x) (tab:fX F) (pZ:num+2<4294967296) (hlen:k.files.length+x.added.length<=1100000) (hcap:k.files.length<=c)
include m h r pZ hlen hcap tab
theorem LZ (hf:kh x.added=true)(ag:(de x).length<=32768)(O:wz k x=some k'):Calls Tryz.prog 75 #[ap mp,.agg (jW L x)] w (qO mp p num k D xs x w0 F):=by
 obtain⟨S0,Y⟩:∃S0,S0=fL mp p jj num xs.length A c k D (al [] (cf xs)).length F:=⟨_,rfl⟩;have HP:=zbj (fun(u:World)(S:ba)(mu:Mod u w0 S)(s:Sub S S0)=>qo L x u w0 S mu ((r.lift (by rw[Y];infer_instance:Sub S0 F)).lift s));have bM:jq S0 mp (.cells #[ap p,ap jj,.int .u32 (num:Int),.int .i64 (xs.length:Int),.slice A k.files.length k.files.length,.slice none 0 0,.slice none 0 0,.int .u32 (k.al:Int),.int .u32 (k.next:Int),.int .u64 (k.seq:Int),.bool true] 152 (0,0)):=by rw[Y];unfold fL gA dk.nums;infer_instance
 have rk:du S0 A k.files.length k.files:=(kR A c k.files).lift (by rw[Y];unfold fL;infer_instance);have aK:Sub S0 F:=by rw[Y];infer_instance
 rw[<-Y]at m;have aS:=zbj Y;obtain⟨z,hz⟩:∃z,(de x).length=z:=⟨_,rfl⟩
 have aW:∀S e w',ts x S w0 e w'->∃A c,e=.returned (.tuple #[.slice A z c,.int .i64 0])/\Mod w' w0 (ar 5 1 (.slice A z c) z (b7 (de x))*S):=fun S e w' h=>by
  rcases h with⟨h,_⟩ | ⟨_,h⟩
  ·rw[hf]at h;cases h
  ·rw[hz]at h;exact h
 have aR:=zbj aW;clear Y aW;have bV:¬(32768:Int)<(z:Int):=oMg
 have bE:=zbj (fun(mp p jj num many:Nat)(A:Option Addr)(c:Nat)(D:aq)(w:World)(G:ba)(en:Nat)(m:Mod w w0 (fL mp p jj num many A c k D en G))(s:Sub G F)(hl:k.files.length<=100000000)=>MT mp p jj num many A c k D w w0 G en L x k' m (r.lift s) O hl);have aV:yC x:=⟨hf,r.nums,r.Mb,by have:=r.JP;omega,by have:=r.JQ;omega,r.al,r.next,r.seq⟩;obtain⟨aA,aC,rA,rC⟩:=L;have bJ:k.files.length<=100000000:=oMg
 have HD:=zbj (fun(u:World)(S:ba)(mu:Mod u w0 S)(s:Sub S S0)=>y8 A k.files.length k.files.length k.files aA x.added.length aC rA x.removed.length rC x.added x.removed x.al x.next x.seq u w0 S mu (rk.lift s) bJ ((r.added.lift aK).lift s) r.JP ((r.removed.lift aK).lift s) r.JQ)
 have aX:FT k.files ⟨x.added,x.removed,x.al,x.next,x.seq⟩=some k'.files:=by
  unfold wz at O;obtain⟨l,h1,rfl⟩:=Xk.1 O;exact h1
 rw[aX]at HD;have y:Hid (jG D num xs k/\yC x/\wz k x=some k'/\(de x).length<=32768/\fX F/\(de x).length=z/\k.files.length+x.added.length<=1100000/\num+2<4294967296/\k.files.length<=c):=⟨h,aV,O,ag,tab,hz,hlen,pZ,hcap⟩;clear h r hlen ag hz rk aK aX O hf aV tab;have qn:∀(w:World)(a:Option Addr)(n c n' c':Nat),(binOp .neq 124 (.slice a n c) (.slice none n' c')).run Tryz.prog w=.ok (.bool (!a.isNone)) w:=fun w a n c n' c'=>run_neq_slice_nil_any w _ _ a n c n' c' Tryz.underlying124;have qe:∀(w:World)(a:Option Addr)(n c n' c':Nat),(binOp .eql 124 (.slice a n c) (.slice none n' c')).run Tryz.prog w=.ok (.bool a.isNone) w:=fun w a n c n' c'=>Lib.run_eql_slice_nil w _ _ a n c n' c' Tryz.underlying124;show Calls Tryz.prog _ #[_,.agg #[.slice aA x.added.length aC,.slice rA x.removed.length rC,.int .u32 (x.al:Int),.int .u32 (x.next:Int),.int .u64 (x.seq:Int)]] _ _;go_enter Tryz.func75,Tryz.ntmps75
 go_wp2_with (go_at_call 121;refine(HP.out _ _ zbk zbk).mono ?_;intro e w1 az;obtain⟨B,cb,rfl,m1⟩:=aR.out _ _ _ az;clear az)
 go_cut [6,7]from 30 (fun _ ev wx=>ev=.int .i64 0/\Mod wx w0 (ar 5 1 (.slice B z cb) z (b7 (de x))*(aE w.heap.size (.cells #[.slice aA x.added.length aC,.slice rA x.removed.length rC,.int .u32 (x.al:Int),.int .u32 (x.next:Int),.int .u64 (x.seq:Int)] 130 (0,0))*S0)))
 case first =>
  go_region_with (go_at_call 122;refine(HD.out _ _ zbk zbk).mono ?_;rintro e w2 ⟨A2,c2,rfl,_,m2⟩)
  all_goals (go_wp2_with fail)
  all_goals go_meet
  all_goals exact⟨rfl,Mod.drop (m:=m2)⟩
 case rest =>
  obtain⟨rfl,m3⟩:=hcut;clear HD HP aR m1 m;obtain⟨K,ae⟩:∃K,K=ar 5 1 (.slice B z cb) z (b7 (de x))*(aE w.heap.size (.cells #[.slice aA x.added.length aC,.slice rA x.removed.length rC,.int .u32 (x.al:Int),.int .u32 (x.next:Int),.int .u64 (x.seq:Int)] 130 (0,0))*F):=⟨_,rfl⟩;have m4:Mod wc w0 (fL mp p jj num xs.length A c k D (al [] (cf xs)).length K):=Mod.to (m:=m3) (by rw[ae,aS.out];unfold fL;ac_rfl);have hX:jq K w.heap.size (.cells #[.slice aA x.added.length aC,.slice rA x.removed.length rC,.int .u32 (x.al:Int),.int .u32 (x.next:Int),.int .u64 (x.seq:Int)] 130 (0,0)):=by rw[ae];infer_instance
  have rB:bk K B (de x).length (b7 (de x)):=by rw[ae,y.out.2.2.2.2.2.1];infer_instance
  have aZ:(de x).length<=cb:=by rw[y.out.2.2.2.2.2.1];exact rL (m:=m3)
  have sG:Sub K F:=by rw[ae];infer_instance
  have tG:fX K:=y.out.2.2.2.2.1.lift sG;have bN:z=(de x).length:=y.out.2.2.2.2.2.1.symm;have RB:=zbj rB;have TG:=zbj tG;have ak:k.files.length<=1100000:=by have:=y.out.2.2.2.2.2.2.1;omega
  have pZ:=y.out.2.2.2.2.2.2.2.1;clear m3 aS bM ae rB tG;generalize w.heap.size=bx at *;subst bN;have bn:=m4;unfold fL gA at bn;go_upto_if 46 with fail
  go_cut [8]from 46 (fun _ wx=>∃(D1:aq)(I U:Nat)(J:List db),Hid (O1 num k D xs x D1 I J)/\Mod wx w0 (fL mp p U I J.length A c k D1 (al [] (cf J)).length K))
  case first =>
   by_cases hm:16<=xs.length
   ·have aG:(16:Int)<=(xs.length:Int):=oMg
    have bK:decide ((16:Int)<=(xs.length:Int))=true:=decide_eq_true aG;have HW:=zbj (Fm mp p jj num xs.length A c k D wc w0 K _ m4 y.out.1.know ak);go_wp2_with (go_at_call 123;refine HW.out.mono ?_;rintro e w5 ⟨g,R,rfl,rR,m5⟩)
    refine(Dv mp p jj num A c k D xs w5 w0 K xs.length R g m5 rfl rR TG.out y.out.1 oMg ak).mono ?_;rintro e w6 ⟨e0,D1,U,I,J,rfl,hb,m6⟩;have HB:=zbj hb;clear hb;go_wp2_with fail
    go_meet
    refine⟨D1,I,U,J,⟨HB.out.1,HB.out.2.1,HB.out.2.2.1,fun hg=>?_⟩,m6⟩;rcases HB.out.2.2.2 with⟨_,rfl⟩ | ⟨_,_,bL⟩
    ·exact⟨Nat.le_of_ble_eq_true rfl,fun _=>by have:=Bc y.out.1.know hg.2.2.2.2;show (al [] [de k.whole]).length<=20000;omega⟩
    ·exact absurd (y.out.1.fine (p7 (F:=gA mp p (ap jj) num xs.length (.slice A k.files.length k.files.length) k.nums*(dt jj p (cD num) (al [] (cf xs)).length*(kJ A c k.files*K))) m4 ⟨rfl⟩) hg.2.2.2.1 oMg hg.2.2.2.2) bL
   ·have aG:¬(16:Int)<=(xs.length:Int):=oMg
    have bK:decide ((16:Int)<=(xs.length:Int))=false:=decide_eq_false aG;go_wp2_with fail
    go_meet
    exact⟨D,num,jj,xs,⟨y.out.1,ki.refl D,Nat.le_succ _,fun _=>⟨oMg,fun h=>h⟩⟩,m4⟩
  case rest =>
   obtain⟨D1,I,U,J,HM,m7⟩:=hcut;have bT:I<=num+1:=HM.out.2.2.1;clear m4 bn;have bu:=m7;unfold fL gA at bu;go_wp2_with fail
   refine(Ex mp p num A c k D xs x _ w0 K ⟨HM.out.1,HM.out.2.1,oMg,HM.out.2.2.2⟩ oMg B cb RB.out aZ m7).mono ?_;rintro e w8 ⟨r,D2,en,rfl,hB,m8⟩;have HB:=zbj hB;clear m7 bu hB;have aN:=m8;unfold fL gA at aN
   have au:r≠0->¬nU D k xs x:=fun hr=>by
    obtain⟨_,_,_,_,gj,_,_,q | q⟩:=HB.out
    ·exact absurd q.1 hr
    ·exact q.2.2.2
   go_upto_if 61 with fail
   go_cut [9]from 61 (fun _ wx=>∃(D2:aq)(aF bO:Nat)(bB:List db)(D3:aq)(aT:Nat),Hid (OD num k D xs x 0 D2 aF bB D3 aT)/\Mod wx w0 (fL mp p bO aF bB.length A c k D3 aT K))
   case first =>
    by_cases hr:r=0
    ·subst hr
     go_wp2_with fail
     go_meet
     exact⟨D1,I,U,J,D2,en,HB.out,m8⟩
    ·have b0:(r==0)=false:=beq_eq_false_iff_ne.2 hr
     have au:=au hr
     obtain⟨D4,h4,m9⟩:∃D4,D4=D1/\Mod w8 w0 (fL mp p U I J.length A c k D4 (al [] (cf J)).length K):=by
      obtain⟨_,_,_,_,gj,_,_,q | q⟩:=HB.out
      ·exact absurd q.1 hr
      ·obtain⟨_,q1,q2,_⟩:=q
       exact⟨D1,rfl,by rw[q1,q2]at m8;exact m8⟩
     subst h4;clear HB m8 aN;have bz:=m9;unfold fL gA at bz;have HW:=zbj (Fm mp p U I J.length A c k D4 w8 w0 K _ m9 y.out.1.know ak);go_wp2_with (go_at_call 123;refine HW.out.mono ?_;rintro e w5 ⟨g,R,rfl,rR,m5⟩)
     refine(Dv mp p U I A c k D4 J w5 w0 K J.length R g m5 rfl rR TG.out HM.out.1 oMg ak).mono ?_;rintro e w6 ⟨e0,D5,bf,ai,aO,rfl,hb,m6⟩;have aa:=zbj hb;clear hb m5 HW m9 bz
     have aP:Hid (∀u D' V aj aL,Mod u w0 (fL mp p aL V aj.length A c k D' (al [] (cf aj)).length K)->jG D' V aj k->ki D D'->V<=num+2->qO mp p num k D xs x w0 F (.returned (.int .i64 6)) u):=fun u D' V aj aL mu hi hs hn =>
      ⟨6,D',V,aj,k,aL,A,c,rfl,hi,hs,hn,.inr ⟨by decide,rfl,au,fun _ _ hh=>(by rw[y.out.2.2.1]at hh;cases hh)⟩,y.out.2.2.2.2.2.2.2.2,Cp mu sG⟩
     have aJ:ki D D5:=HM.out.2.1.trans aa.out.2.1;have aH:ai<=num+2:=by have:=aa.out.2.2.1;omega
     by_cases aY:e0=0
     ·subst aY
      have bq:=m6;unfold fL gA at bq;go_wp2_with fail
      refine(Ex mp p num A c k D xs x _ w0 K ⟨aa.out.1,aJ,aH,fun hg=>absurd hg au⟩ oMg B cb RB.out aZ m6).mono ?_;rintro e bR ⟨r2,D6,bH,rfl,aU,av⟩;have aQ:=zbj aU;clear aU m6 bq;by_cases aI:r2=0
      ·subst aI
       go_wp2_with fail
       go_meet
       exact⟨D5,ai,bf,aO,D6,bH,aQ.out,av⟩
      ·have b2:(r2==0)=false:=beq_eq_false_iff_ne.2 aI
       obtain⟨D7,h7,bP⟩:∃D7,D7=D5/\Mod bR w0 (fL mp p bf ai aO.length A c k D7 (al [] (cf aO)).length K):=by
        obtain⟨_,_,_,_,gj,_,_,q | q⟩:=aQ.out
        ·exact absurd q.1 aI
        ·obtain⟨_,q1,q2,_⟩:=q
         exact⟨D5,rfl,by rw[q1,q2]at av;exact av⟩
       subst h7;clear av;go_wp2_with fail
       go_ret
       exact aP.out _ _ _ _ _ bP aa.out.1 aJ aH
     ·have b2:(e0==0)=false:=beq_eq_false_iff_ne.2 aY
      go_wp2_with fail
      go_ret
      exact aP.out _ _ _ _ _ m6 aa.out.1 aJ aH
   case rest =>
    obtain⟨D3,M,ah,E,D4,bS,bC,ax⟩:=hcut;clear m8 aN HB;obtain⟨i1,i2,i3,i6,gj,i4,i5,⟨_,rfl,rfl⟩ | ⟨q,_⟩⟩:=bC.out
    ·have H6:=zbj i6
     clear i6;have Z:=p7 (F:=gA mp p (ap ah) M E.length (.slice A k.files.length k.files.length) k.nums*(dt ah p (cD M) (al [] (cf E++[de x])).length*(kJ A c k.files*K))) ax ⟨rfl⟩;have af:(D3.now.map (·.2)).Nodup:=Z.inj
     have bU:(E.length:Int)<2000000:=by
      have h1:=Z.len _ (jo _ _ _ (jK D3.files gj _ ⟨al [] (cf E++[de x]),(al [] (cf E)).length⟩ i5));have h2:=tS (cf E++[de x]) [];simp only[Ze,List.length_nil,List.length_singleton,cf,ZW]at h2;have h3:(al [] (cf E++[de x])).length<=1048576:=h1;simp only[cf]at h3;omega
     have HI:=zbj (i1.added af y.out.2.1 y.out.2.2.1 y.out.2.2.2.1 i4 i5);have bF:=zbj (i2.trans (ki.put (D:=D3) Z.keys af (pq M) i4 ⟨al [] (cf (E++[x])),(al [] (cf (E++[x]))).length⟩));have bG:=zbj (Np mp p ah M E.length A c k D3 E wc w0 K (de x) gj ax oMg i4 i5);have aB:=ax;unfold fL gA at aB;clear af i4 i5 Z;go_wp2_with (go_at_call 43;refine bG.out.mono ?_;rintro e bW ⟨rfl,aM⟩;(have aD:=aM;unfold fL gA at aD;clear ax aB))
     have ay:=J2 (E.length+1) aM;have ee:((E.length+1:Nat):Int)=(E.length:Int)+1:=oMg
     rw[ee]at ay;have bD:=zbj (bE.out mp p ah M (E.length+1) A c _ _ K _ ay sG oMg);clear aM aD;have bg:=ay;unfold fL gA at bg;clear ay;refine bD.out.mono ?_;rintro e bX ⟨rfl,A',c',bI,bQ⟩;go_wp2_with fail
     go_ret
     refine⟨0,_,M,E++[x],k',ah,A',c',rfl,HI.out,bF.out,i3,.inl ⟨rfl,y.out.2.2.1,E,rfl,H6.out⟩,bI,?_⟩;have e1:cf (E++[x])=cf E++[de x]:=by simp[cf]
     have e2:(E++[x]).length=E.length+1:=by simp
     rw[e1,e2];exact Cp bQ sG
    ·exact absurd rfl q
theorem Cn:Calls Tryz.prog 75 #[ap mp,.agg (jW L x)] w (qO mp p num k D xs x w0 F):=by
 cases y:kh x.added with
 | false=>exact JY mp p jj num A c k D xs L x w w0 F m h r hcap y
 | true =>
   rcases XH 32768 (de x).length with z | z
   ·exact JZ mp p jj num A c k D xs L x w w0 F m h r hcap y z
   ·cases hd:wz k x with
    | none=>exact M2 mp p jj num A c k D xs L x w w0 F m h r hlen hcap y z hd
    | some k'=>exact LZ mp p jj num A c k k' D xs L x w w0 F m h r tab pZ hlen hcap y z hd
end
end Go.Proofs.YtdfppjcaelghhaaGreatDoor
