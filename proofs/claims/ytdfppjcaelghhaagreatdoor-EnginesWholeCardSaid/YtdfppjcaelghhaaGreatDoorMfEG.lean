/- Plain lemmas and contracts; the conditions are in each. -/
import Derived.Test.YtdfppjcaelghhaaGreatDoorMfDG
set_option maxHeartbeats 16000000
set_option maxRecDepth 8000
namespace Go.Proofs.YtdfppjcaelghhaaGreatDoor
open Go.RowKit Go.Sl
attribute [local go_sem] ab bj bh bd
theorem Ni {w w0:World}{S:ba}{e size:TypeId}(m:Mod w w0 S):Mod w w0 (ar e size (.slice none 0 0) 0 []*S) :=
 ⟨m.os,m.tape,m.output,by
   rw[bo]
   refine⟨Hp.none,hp w,Hp.nK _,(Hp.join_none _).symm,⟨by simp,.inl ⟨rfl,rfl,rfl⟩⟩,m.says⟩⟩
theorem Ep (s:ByteArray)(w w0:World)(S:ba)(m:Mod w w0 S):Calls Tryz.prog 102 #[.string s] w fun e K=>e=.returned (.bool (gc s))/\Mod K w0 S:=by
 have B:=zbj (fun(u:World)(J:Mod u w0 S)=>mN s ⟨#[109]⟩ u w0 S J);obtain⟨z,y⟩:∃z,gc s=z:=⟨_,rfl⟩;have E:Lib.hasPrefix s.data.toList (⟨#[109]⟩:ByteArray).data.toList=z:=y;rw[E]at B;rw[y];clear E y;go_enter Tryz.func102,Tryz.ntmps102
 go_wp2_with (go_at_call 49;refine(B.out _ m).mono ?_;rintro e w1 ⟨rfl,I⟩)
 go_ret
 exact⟨rfl,I⟩
def uG (l:List ByteArray):Int:=match l.findIdx? gc with | some i=>(i:Int) | none => -1
theorem Kf {l:List ByteArray}{i:Nat}(y:i<l.length)(h:∀j (_:j<l.length),j<i->gc l[j]=false)(hp:gc l[i]=true):uG l=(i:Int):=by
 unfold uG
 have:l.findIdx? gc=some i:=by
  rw[Zk];exact⟨y,hp,fun j z=>by simp[h j oMg z]⟩
 rw[this]
theorem EB {l:List ByteArray}(h:∀j (_:j<l.length),gc l[j]=false):uG l = -1:=by
 unfold uG
 have:l.findIdx? gc=none:=by
  rw[ZV];intro x z;obtain⟨i,y,rfl⟩:=ZI.1 z;exact h i y
 rw[this]
theorem Bp (B:Option Addr)(n c:Nat)(l:List ByteArray)(w w0:World)(S:ba)(m:Mod w w0 S)(r:bk S B n (pT l))(hn:n<=1000000) :
 Calls Tryz.prog 100 #[.slice B n c,.func (.func 102) #[] #[]] w fun e w'=>e=.returned (.int .i64 (uG l))/\Mod w' w0 S:=by
 have K:l.length=n:=by have:=fp m r;simpa [pT]using this
 have R:=zbj r;have Hl:=zbj K;obtain⟨z,hz⟩:∃z,uG l=z:=⟨_,rfl⟩;rw[hz];have Hz:=zbj hz;clear r hz K;go_enter Tryz.func100,Tryz.ntmps100
 go_wp2_with fail
 go_loopg [8] n (fun gk iv wr=>∃i:Nat,i<=n/\gk=n-i/\iv=.int .i64 (i:Int)/\Hid (∀j (_:j<l.length),j<i->gc l[j]=false)/\Mod wr w0 S)
 case atStart=>exact⟨0,Zv _,rfl,rfl,(fun j _ Y=>by omega),m⟩
 case round =>
  obtain⟨i,hi,ae,rfl,E,Z⟩:=hrel;by_cases U:i<n
  ·have aa:(i:Int)<(n:Int):=oMg
   have O:i<l.length:=by rw[Hl.out];exact U
   obtain⟨b,o,rfl,J⟩:=px Z R.out oMg;have hc:=J i O;have V:=zbj (fun(u:World)(mu:Mod u w0 S)=>Ep l[i] u w0 S mu);clear J
   cases y:gc l[i]with
   | false =>
     rw[y]at V
     have M:Hid (∀j (_:j<l.length),j<i+1->gc l[j]=false):=fun j Y af=>by
      by_cases e:j=i
      ·subst e;exact y
      ·exact E.out j Y oMg
     clear y;generalize l[i]=f at *;go_wp2_with (go_at_call 102;refine(V.out _ Z).mono ?_;rintro e w1 ⟨rfl,m2⟩)
     go_roundg (n-(i+1))
     case measure=>omega
     case rel=>exact⟨i+1,U,rfl,by go_num,M,m2⟩
   | true =>
     rw[y]at V;have I:Hid (z=(i:Int)):=by show _=_;rw[<-Hz.out];exact Kf O E.out y
     clear y;generalize l[i]=f at *;go_wp2_with (go_at_call 102;refine(V.out _ Z).mono ?_;rintro e w1 ⟨rfl,m2⟩)
     (try rw[Exit.noGoto_ret])
     go_ret
     exact⟨by rw[I.out];rfl,m2⟩
  ·have aa:¬(i:Int)<(n:Int):=oMg
   have I:Hid (z = -1):=by
    show _=_;rw[<-Hz.out];exact EB fun j Y=>E.out j Y (by have:=Hl.out;omega)
   go_wp2_with fail
   go_ret
   exact⟨by rw[I.out];rfl,Z⟩
def zm (l:List ByteArray):ByteArray:=match l.findIdx? gc with | some i=>l.getD i ⟨#[]⟩ | none=>⟨#[]⟩
theorem Eo (B:Option Addr)(n c:Nat)(l:List ByteArray)(w w0:World)(S:ba)(m:Mod w w0 S)(r:bk S B n (pT l))(hn:n<=1000000) :
 Calls Tryz.prog 103 #[.slice B n c,.func (.func 102) #[] #[]] w fun e Z=>e=.returned (.string (zm l))/\Mod Z w0 S:=by
 have E:l.length=n:=by have:=fp m r;simpa [pT]using this
 have K:=zbj (fun(u:World)(mu:Mod u w0 S)=>Bp B n c l u w0 S mu r hn);unfold zm;unfold uG at K
 cases J:l.findIdx? gc with
 | none =>
   rw[J]at K;clear r J E;go_enter Tryz.func103,Tryz.ntmps103
   go_wp2_with (go_at_call 100;refine(K.out _ m).mono ?_;rintro e w1 ⟨rfl,M⟩)
   go_ret
   exact⟨rfl,M⟩
 | some i =>
   rw[J]at K
   have I:i<l.length:=by
    rw[Zk]at J;exact J.1
   have aa:(i:Int)<(n:Int):=oMg
   have h0:(0:Int)<=(i:Int):=oMg
   have V:Hid (l.getD i ⟨#[]⟩=l[i]):=by show _=_;rw[Zw,Zg I];rfl
   obtain⟨b,o,rfl,_⟩:=px m r oMg;have RR:=zbj r;have O:=zbj I;clear r J E;show Calls Tryz.prog _ _ _ fun e Z=>e=.returned (.string (l.getD i ⟨#[]⟩))/\_;rw[V.out];clear V;generalize Y:l[i]=s at *;have HS:=zbj Y;clear Y I;go_enter Tryz.func103,Tryz.ntmps103
   go_wp2_with fail
   refine(K.out _ m).mono ?_;rintro e w1 ⟨rfl,M⟩;obtain⟨b2,o2,U,y⟩:=px M RR.out oMg;injection U with U;injection U with hb1 hb2;subst hb1 hb2;have hc:=(y i O.out).trans (congrArg (fun z=>some (Value.string z)) HS.out);clear y;go_wp2_with fail
   go_ret
   exact⟨rfl,M⟩
def nX:ByteArray:=⟨#[120]⟩
theorem OL:eo nX=true:=pj (l:=[120]) (by decide) (by decide) (by decide)
def NS (p n:Nat)(w0:World)(F:ba)(e:Ending)(B:World):Prop :=
 (∃(z E:Nat)(y:aq),e=.returned (.tuple #[ap z,.int .i64 0])/\jG y 1 [] ji/\ki (ew n) y/\Mod B w0 (fL z p E 1 0 none 0 ji y (al [] (cf [])).length F)) \/
 (n<4096/\e=.returned (.tuple #[.pointer none,.int .i64 6])/\∃y,Mod B w0 (bv p y*F))
theorem Ek (n:Nat):e8 (ew n)=[]:=by simp[e8,ew]
theorem J0 (p n:Nat)(w w0:World)(F:ba)(m:Mod w w0 (bv p (ew n)*F))(tab:fX F):Calls Tryz.prog 54 #[ap p] w (NS p n w0 F):=by
 have Z:=zbj (wT p (ew n) nX w w0 _ F m ⟨rfl⟩ (by decide) OL rfl);have E:=zbj (p7 (F:=F) m ⟨rfl⟩);have O:=zbj (fun(u:World)(V:Mod u w0 (bv p (ew n)*F))=>tz p (ew n) u w0 _ F V ⟨rfl⟩);rw[Ek]at O;have T:=zbj tab;clear tab;go_enter Tryz.func54,Tryz.ntmps54
 have I:=True.intro
 go_wp2_with first
  | (go_at_call 47;clear I;refine Z.out.mono ?_;rintro e w1 ⟨rfl,m1⟩)
 go_wp2_with (go_at_call 50;refine(O.out _ m1).mono ?_;rintro e K ⟨B,c,rfl,m2⟩)
 have m3:Mod (K.alloc (.cells #[ap p,.pointer none,.int .u32 0,.int .i64 0,.slice none 0 0,.slice none 0 0,.slice none 0 0,.int .u32 0,.int .u32 0,.int .u64 0,.bool true] 152)) w0 (bv p (ew n)*(gA K.heap.size p (.pointer none) 0 0 (.slice none 0 0) (0,0,0)*F)) :=
  Mod.drop (A:=ar 9 1 (.slice B 0 c) 0 []) (m:=Mod.to (m:=Mod.alloc (m:=m2) (.cells #[ap p,.pointer none,.int .u32 0,.int .i64 0,.slice none 0 0,.slice none 0 0,.slice none 0 0,.int .u32 0,.int .u32 0,.int .u64 0,.bool true] 152)) (by unfold gA;simp only[Ye,List.length_nil];ac_rfl))
 have e0:zm []=⟨#[]⟩:=rfl;have z:=zbj (fun(u:World)(S:ba)(V:Mod u w0 S)=>Eo B 0 c [] u w0 S V (bk.jE B) oMg);rw[e0]at z;clear m1 m2 Z O e0;generalize K.heap.size=J at *;generalize K.alloc (.cells #[ap p,.pointer none,.int .u32 0,.int .i64 0,.slice none 0 0,.slice none 0 0,.slice none 0 0,.int .u32 0,.int .u32 0,.int .u64 0,.bool true] 152)=w3 at *;refine(z.out _ _ m3).mono ?_;rintro e w4 ⟨rfl,m4⟩;clear m3 z;have rN:jt F none 0 []:=⟨rfl,[],rfl,qF,fun i h=>absurd h (by simp)⟩;go_wp2_with fail
 refine(xK J p (.pointer none) 0 0 (.slice none 0 0) (0,0,0) (ew n) none 0 0 [] _ w0 F m4 rN T.out (by decide) rfl rfl (by simp[ew]) oMg).mono ?_;rintro e w5 (⟨rfl,_,jj,g1,g2,q1,q2,q3⟩ | ⟨rfl,U,Y,_,_,_,q4⟩)
 ·go_wp2_with fail
  go_ret2
  have y:cJ (lm (gO (ew n) (cD 1) (al [] []) g1 g2 7) (cD 1)):=p7 q3 ⟨rfl⟩;obtain⟨b1,b2,b3⟩:=Dw (D:=ew n) (num:=1) (rs:=[]) q1 q2;have hE:=ki.over E.out y b2 b3 rfl;have hf:=hE.few E.out y 50 (by simp[tY,ew]);refine .inl ⟨J,jj,lm (gO (ew n) (cD 1) (al [] []) g1 g2 7) (cD 1),rfl,⟨b1,rfl,Kb,by simp,by simp,by simp,hf,hf⟩,hE,?_⟩
  ·exact Mod.to (m:=Ni (e:=44) (size:=4) q3) (by unfold fL kJ dk.nums ji;simp only[List.length_nil,Yv,cf,Ye];ac_rfl)
 ·have M:=zbj (yS J p (.pointer none) 0 0 (.slice none 0 0) (0,0,0) Y ⟨#[]⟩ w5 w0 F q4)
  have hn:n<4096:=by
   rcases XH n 4096 with h | h
   ·exact h
   ·refine absurd ⟨by simp,by simp[al],?_⟩ U
    have:=l8 (n:=0+1) (by decide);simp only[al,List.foldl_nil,List.length_nil,leftOf,ew,eh];omega
  go_wp2_with (go_at_call 105;refine M.out.mono ?_;rintro e w6 ⟨rfl,m6⟩)
  go_ret2
  exact .inr ⟨hn,rfl,lm Y ⟨#[]⟩,Mod.drop (A:=gA J p (.pointer none) 0 0 (.slice none 0 0) (0,0,0)) (m:=Mod.to (m:=m6) (cC _ _ _))⟩
theorem Qs {z p num many:Nat}{j E:Value}{k:Nat×Nat×Nat}{w w0:World}{R:ba}(B:Value)(y:Nat)(m:Mod w w0 (gA z p j num many E k*R)) :
 Mod ((w.setCell ⟨z,1,none⟩ B).setCell ⟨z,2,none⟩ (.int .u32 (y:Int))) w0 (gA z p B y many E k*R):=by
 unfold gA at m;have I:=Mod.setCells (m:=m) (g:=z) (i:=1) B (t:=⟨rfl⟩);exact Mod.setCells (m:=I) (g:=z) (i:=2) (.int .u32 (y:Int)) (t:=⟨rfl⟩)
theorem ni {L:xb}{x:db}(y:yC x)(E:x.added.length<=L.aC)(I:x.removed.length<=L.rC)(z:x.added.length<=1100000)(B:x.removed.length<=1100000):kW (gK L x) L x:=by
 unfold gK;refine⟨⟨rfl,ct (S:=ar 44 4 (.slice L.aA x.added.length L.aC) x.added.length (x.added.flatMap bi.cells)) zbk (fh (by decide))⟩,⟨rfl,zbk⟩,y.nums,y.Mb,z,B,y.al,y.next,y.seq,E,I⟩
theorem Qc {xs:List db}{z E:dk}(h:xD ji xs=some z){i:Nat}(I:i<xs.length)(J:xD ji (xs.take i)=some E):∃y,xD ji (xs.take (i+1))=some y/\wz E xs[i]=some y:=by
 obtain⟨y,B⟩:=PU h (i+1);refine⟨y,B,?_⟩;rw[Zx I,zq,J]at B;exact B
theorem PE:∀(xs:List db)(k z:dk),xD k xs=some z->z.files.length<=k.files.length+(cf xs).flatten.length
 | [],k,z,h=>by simp only[xD,zbn]at h;subst h;simp
 | x::xs,k,z,h=>by
   simp only[xD]at h
   cases hd:wz k x with
   | none=>rw[hd]at h;cases h
   | some y =>
     rw[hd]at h;have E:=PE xs y z h
     have I:y.files.length<=k.files.length+x.added.length:=by
      unfold wz at hd;obtain⟨l,B,rfl⟩:=Xk.1 hd;exact MS B
     have J:x.added.length<=(de x).length:=by
      unfold de;simp only[Ze]
      have:x.added.length<=(x.added.flatMap lI).length:=by
       generalize x.added=l
       induction l with
       | nil=>simp
       | cons f l M =>
         rw[Zp,Ze,List.length_cons]
         have:1<=(lI f).length:=by
          unfold lI;rw[Ze];have:=we f.num;omega
         omega
      omega
     have K:(cf (x::xs)).flatten.length=(de x).length+(cf xs).flatten.length:=by simp[cf]
     omega
theorem jG.open {D:aq}{num:Nat}{xs:List db}{k:dk}(h:jG D num xs k):jG (lm D (cD num)) num xs k:=by
 obtain⟨K,J,U,V,Y,Z,a5,a6⟩:=h.disk.ex
 have z:lp (cD num) nM=true:=by
  unfold lp
  have:¬cD num=⟨#[]⟩:=fun e=>by
   have h:=congrArg ByteArray.size e;rw[Cq]at h;exact absurd h (by show 2+_≠0;omega)
  simp[this]
 have B:lp (cD num) (cD num)=true:=by unfold lp;simp
 have E:br (lm D (cD num)).now nM=some K:=by show br (List.filter _ _) _=_;rw[lw,if_pos z];exact U
 have I:br (lm D (cD num)).now (cD num)=some J:=by show br (List.filter _ _) _=_;rw[lw,if_pos B];exact V
 have O:∀q∈(lm D (cD num)).now,q∈D.now:=fun q y=>(ZB.1 y).1;have hs:(tY (lm D (cD num)).now).Sublist (tY D.now):=ZT.filter _;have M:=Yl hs.length_le h.few;exact⟨⟨⟨K,J,E,I,Y,Z,E,I⟩,fun q y=>h.disk.own q (O q y),fun q y=>h.disk.own q (O q y)⟩,h.fold,h.know,h.each,h.head,h.tail,M,M⟩
theorem ki.clear (D:aq)(nm:ByteArray):ki D (lm D nm):=by
 have e:∀s,gc s=false->br (lm D nm).now s=br D.now s:=fun s y=>by
  show br (List.filter _ _) s=_;rw[lw,if_pos (by unfold lp;rw[y];rfl)]
 exact⟨rfl,e,fun _ _ _ _ _ h=>h,.inr e,CC _ (ZT.filter _)⟩
theorem PV {xs:List db}{B:dk}{i:Nat}(I:i<=xs.length)(h:xD ji (xs.take i)=some B)(K:(al [] (cf xs)).length<=1048576):B.files.length<=1048576:=by
 have y:=PE _ _ _ h;have z:=j0 (cf (xs.take i)) [];have e:cf (xs.take i)=(cf xs).take i:=by simp[cf]
 have E:=C4 (cf xs) (show i<=(cf xs).length by simpa [cf]using I);rw[Xc]at E;rw[zax]at y;rw[e]at y z;have J:ji.files.length=0:=rfl;simp only[List.length_nil]at z;omega
attribute [local go_sem] ab bj bh bd tu
theorem gH (D:aq):(e8 D).map Go.Proofs.encStr=pT ((e8 D).map fun l=>⟨l.toArray⟩):=zc _
theorem Pu {D:aq}{s:ByteArray}{g:Nat}(h:br D.now s=some g):s∈(e8 D).map fun l=>(⟨l.toArray⟩:ByteArray) :=
 Zz.2 ⟨s.data.toList,uD.2 ⟨_,fj h,rfl⟩,rfl⟩
theorem Qb {l:List ByteArray}{s:ByteArray}(h:s∈l)(z:gc s=true):gc (zm l)=true:=by
 unfold zm
 cases y:l.findIdx? gc with
 | none =>
   rw[ZV]at y;rw[y s h]at z;cases z
 | some i =>
   rw[Zk]at y;obtain⟨B,hp,_⟩:=y;show gc (l.getD i _)=true;rw[Zw,Zg B];exact hp
theorem QO {s:ByteArray}(h:gc s=true):s.toList.isEmpty=false:=by
 cases y:s.toList.isEmpty with
 | false=>rfl
 | true =>
   have e:s=⟨#[]⟩:=toList_inj ((Xn.1 y).trans toList_no.symm);rw[e]at h;exact absurd h (by decide)
def QM (p num:Nat)(k:dk)(D:aq)(xs:List db)(w0:World)(F:ba)(e:Ending)(E:World):Prop :=
 ∃(z B:Nat)(A:Option Addr)(c:Nat)(y:aq),e=.returned (.tuple #[ap z,.int .i64 0])/\jG y num xs k/\ki D y/\k.files.length<=c/\Mod E w0 (fL z p B num xs.length A c k y (al [] (cf xs)).length F)
theorem Qe (p num:Nat)(k:dk)(D:aq)(xs:List db)(w w0:World)(F:ba)(m:Mod w w0 (bv p D*F))(h:jG D num xs k)(hX:br D.now nX=none)(tab:fX F)(I:num<4294967296):Calls Tryz.prog 54 #[ap p] w (QM p num k D xs w0 F):=by
 have ae:=p7 (F:=F) m ⟨rfl⟩;obtain⟨gm,gj,a1,a2,a3,a4,a5,a6⟩:=h.disk.ex;obtain⟨names,y⟩:∃names,names=(e8 D).map fun l=>(⟨l.toArray⟩:ByteArray):=⟨_,rfl⟩;obtain⟨nm,z⟩:∃nm,cD num=nm:=⟨_,rfl⟩;obtain⟨b,hb⟩:∃b,nm.data.toList=b:=⟨_,rfl⟩;have aB:nm.size=b.length:=by rw[<-hb];exact Array.length_toList.symm
 have Y:nm∈names:=by rw[y,<-z];exact Pu a2
 have di:=QO (Qb Y (by rw[<-z];exact pq num));have bS:(⟨b.toArray⟩:ByteArray)=nm:=DK (by rw[hb]);have aI:eo nm=true:=by rw[<-z];exact Dd I
 have cZ:b.length<=12:=by rw[<-aB,<-z];exact l8 I
 have bn:nm.size<=9223372036854775807:=oMg
 rw[z]at a2 a3;rw[hb,aB]at a3;obtain⟨ds,K⟩:∃ds,(⟨(Lib.decDigits num).toArray⟩:ByteArray)=ds:=⟨_,rfl⟩
 have bu:(⟨(Lib.trimPrefix nm.data.toList (⟨#[109,45]⟩:ByteArray).data.toList).toArray⟩:ByteArray)=ds:=by
  rw[<-z,qC,<-K];rfl
 have cz:(⟨#[109,45]⟩:ByteArray)++ds=nm:=by rw[<-K,<-z];exact L5 num
 have bf:=l6 I;have cB:ds.size<=10:=by rw[<-K];show (Lib.decDigits num).toArray.size<=10;rw[Zl];exact bf
 have ag:Lib.parseUintB 32 ds.data.toList=.ok num:=by rw[<-K];exact sW num I
 obtain⟨n,hn⟩:∃n,(e8 D).length=n:=⟨_,rfl⟩;have cK:n<=64:=by rw[<-hn,tT];exact ae.many
 have aX:=zbj (wT p D nX w w0 _ F m ⟨rfl⟩ (by decide) OL hX);have HL:=zbj (fun(u:World)(E:Mod u w0 (bv p D*F))=>tz p D u w0 _ F E ⟨rfl⟩);rw[hn,gH,<-y]at HL;have aV:=zbj (fun(u:World)(X:ba)(E:Mod u w0 (bv p D*X))=>wU p D nM gm _ u w0 _ X E ⟨rfl⟩ (by decide) Pc a1 a3);have ax:=zbj (fun(u:World)(X:ba)(E:Mod u w0 (bv p D*X))=>II p D nM u w0 _ X E ⟨rfl⟩ (by decide) 0 b.length gm _ Pc a1 a3 (by simp));simp only[Z6,Xc]at ax;have av:=zbj (fun(u:World)(X:ba)(E:Mod u w0 (bv p D*X))=>wd p D nm u w0 X E bn gj _ aI a2 a4 (h.LH ae));rw[yj]at av;have az:=zbj (fun(u:World)(S:ba)(E:Mod u w0 S)=>iM nm ⟨#[109,45]⟩ u w0 S E);rw[bu]at az;have aT:=zbj (fun(u:World)(S:ba)(E:Mod u w0 S)=>nc ds num oMg ag u w0 S E);have au:=zbj (fun(u:World)(S:ba)(E:Mod u w0 S)(t:fX S)=>rh num oMg u w0 S E t);rw[K]at au;have ak:=zbj (fun(u:World)(S:ba)(B:Option Addr)(c:Nat)(E:Mod u w0 S)(r:bk S B n (pT names))=>zT B n c names nm u w0 S E r oMg);rw[(Lib.containsS_iff names nm).2 Y]at ak;have T:=zbj tab;have HI:=zbj h;have aS:=zbj z;have aR:=zbj (h.LH ae);have df:¬9223372036854775807<2+ds.size:=oMg
 clear h tab a1 a2 a3 a4 a5 a6 ae hX y z hb aB Y K bu ag hn bf;go_enter Tryz.func54,Tryz.ntmps54
 have aY:=True.intro
 go_wp2_with first
  | (go_at_call 47;clear aY;refine aX.out.mono ?_;rintro e w1 ⟨rfl,m1⟩)
 go_wp2_with (go_at_call 50;refine(HL.out _ m1).mono ?_;rintro e w2 ⟨B,c,rfl,m2⟩)
 have m3:Mod (w2.alloc (.cells #[ap p,.pointer none,.int .u32 0,.int .i64 0,.slice none 0 0,.slice none 0 0,.slice none 0 0,.int .u32 0,.int .u32 0,.int .u64 0,.bool true] 152)) w0 (bv p D*(gA w2.heap.size p (.pointer none) 0 0 (.slice none 0 0) (0,0,0)*(ar 9 1 (.slice B n c) n (pT names)*F))) :=
  Mod.to (m:=Mod.alloc (m:=m2) (.cells #[ap p,.pointer none,.int .u32 0,.int .i64 0,.slice none 0 0,.slice none 0 0,.slice none 0 0,.int .u32 0,.int .u32 0,.int .u64 0,.bool true] 152)) (by unfold gA;ac_rfl)
 clear m1 m2;generalize w2.heap.size=Z at *;generalize w2.alloc (.cells #[ap p,.pointer none,.int .u32 0,.int .i64 0,.slice none 0 0,.slice none 0 0,.slice none 0 0,.int .u32 0,.int .u32 0,.int .u64 0,.bool true] 152)=w3 at *;refine(Eo B n c names w3 w0 _ m3 zbk oMg).mono ?_;rintro e w4 ⟨rfl,m4⟩;clear m3;go_wp2_with (go_at_call 47;refine(aV.out _ _ m4).mono ?_;rintro e w5 ⟨rfl,m5⟩)
 refine(ax.out _ _ m5).mono ?_;rintro e w6 ⟨B6,c6,rfl,m6⟩;clear m4 m5
 go_wp2_with first
  | (go_at_call 108;refine(az.out _ _ m6).mono ?_;rintro e w7 ⟨rfl,m7⟩)
  | (go_at_call 107;refine(aT.out _ _ m7).mono ?_;rintro e w8 ⟨rfl,m8⟩)
 clear m6 m7;obtain⟨SS,V,aN⟩:∃SS,SS=_/\Mod w8 w0 SS:=⟨_,rfl,m8⟩;have cu:bk SS B6 b.length (b7 b):=by rw[V];infer_instance
 have bK:bk SS B n (pT names):=by rw[V];exact ct (S:=ar 9 1 (.slice B n c) n (pT names)) zbk zbk
 have bL:fX SS:=T.out.lift (by rw[V];infer_instance);have aQ:=zbj (fun(u:World)(E:Mod u w0 SS)=>au.out u SS E bL);have aP:=zbj (fun(u:World)(E:Mod u w0 SS)=>ak.out u SS B c E bK);have aW:=zbj V;clear V bK bL m8;have:=jO.some aN;refine dy aN kRf kRf ?_
 repeat (go_big_quiet_step (first | (go_at_call 109;refine cW (aQ.out _ ?_);exact zbk) | (go_at_call 53;refine cW (aP.out _ ?_);exact zbk)))
 refine wpQuiet_nil ?_;rintro w9 ⟨s,rfl⟩;have m9:=Mod.to (m:=s.mod) aW.out;clear aN cu aQ aP aW this;generalize s.world=w9 at *;go_wp2_with fail
 have bC:Mod w9 w0 (bv p D*(gA Z p (.pointer none) 0 0 (.slice none 0 0) (0,0,0)*(ar 5 1 (.slice B6 b.length c6) b.length (b7 b)*(ar 9 1 (.slice B n c) n (pT names)*F)))):=Mod.to (m:=m9) (by ac_rfl);refine(av.out _ _ bC).mono ?_;rintro e bM ⟨jj,AR,RO,rfl,bq,aL⟩;have aJ:=bq.reads;have aG:(cf xs).length=xs.length:=by simp[cf]
 rw[aG]at aJ;simp only[aG];have ay:=zbj aJ;clear m9 bC bq aJ aG;obtain⟨N,hN⟩:∃N,xs.length=N:=⟨_,rfl⟩;rw[hN]at ay;simp only[hN];obtain⟨en,aF⟩:∃en,(al [] (cf xs)).length=en:=⟨_,rfl⟩;simp only[aF]at aL;have bQ:=zbj aF;have U:=zbj hN;clear aF hN;obtain⟨G,hG⟩:∃G,G=RO*(ar 5 1 (.slice B6 b.length c6) b.length (b7 b)*(ar 9 1 (.slice B n c) n (pT names)*F)):=⟨_,rfl⟩;have aM:Mod bM w0 (gA Z p (.pointer none) 0 0 (.slice none 0 0) (0,0,0)*(bv p D*(dt jj p nm en*G))):=Mod.to (m:=aL) (by rw[hG];ac_rfl);have rG:jt G AR N (cf xs):=ay.out.lift (by rw[hG];infer_instance);have bJ:bk G B6 b.length (b7 b):=by rw[hG];exact ct (S:=ar 5 1 (.slice B6 b.length c6) b.length (b7 b)) zbk zbk
 have sG:Sub G F:=by rw[hG];infer_instance
 have RG:=zbj rG;have dx:IntKind.u32.wrap (num:Int)=(num:Int):=by rw[IntKind.wrap_u32];omega
 have bD:=Qs (ap jj) num aM
 have ai:Mod ((bM.setCell ⟨Z,1,none⟩ (ap jj)).setCell ⟨Z,2,none⟩ (.int .u32 (num:Int))) w0 (fL Z p jj num 0 none 0 ji D en G) :=
  Mod.to (m:=Ni (e:=44) (size:=4) bD) (by unfold fL kJ dk.nums ji;rw[aS.out];simp only[List.length_nil,Yv];ac_rfl)
 have af:=zbj ai;clear hG rG aL bD ai ay av aV ax az aT au ak HL aX;have ah:=aM;unfold gA at ah;clear aM;go_wp2_with fail
 clear ah;have bE:=af.out;clear af
 have cO:(N:Int)<2000000:=by
  have h1:=tS (cf xs) [];have h2:=aR.out;have h3:(cf xs).length=N:=by rw[<-U.out];simp[cf]
  simp only[List.length_nil]at h1;omega
 go_loopg [2,3,103] N (fun gk mv ev iv wr=>∃(i:Nat)(A:Option Addr)(cc:Nat)(zi:dk),i<=N/\gk=N-i/\iv=.int .i64 (i:Int)/\mv=ap Z/\ev=.int .i64 0/\Hid (xD ji (xs.take i)=some zi)/\zi.files.length<=cc/\Mod wr w0 (fL Z p jj num i A cc zi D en G))
 case atStart=>exact⟨0,none,0,ji,Zv _,rfl,rfl,rfl,rfl,rfl,Zv _,bE⟩
 case round =>
  clear bE;obtain⟨i,A,cc,zi,dn,dm,rfl,rfl,rfl,HZ,bU,M⟩:=hrel;by_cases aH:i<N
  ·have bW:(i:Int)<(N:Int):=oMg
   have J:=M;unfold fL gA at J;obtain⟨b1,o1,bR,bX,Br,cr,bz,rr,aD⟩:=Bz (Mod.sub G (m:=J)) RG.out aH;subst bR;have hx:wr.cell? ⟨b1,o1+i,none⟩=some (.slice Br (cf xs)[i].length cr):=bz ⟨wr,Mod.sub G (m:=J)⟩;have aa:i<xs.length:=by rw[U.out];exact aH
   have bg:(cf xs)[i]=de xs[i]:=by simp[cf]
   rw[bg]at hx rr aD;obtain⟨zj,bB,bV⟩:=Qc HI.out.fold aa HZ.out;have aK:=HI.out.each _ (Zq aa);have bY:=HI.out.head _ (Zq aa);have dw:=PV (by rw[U.out];omega) HZ.out aR.out;have HG:=zbj (P7 Br (de xs[i]).length cr (de xs[i]) wr w0 _ M (ct zbk rr) oMg aD);rw[PY aK]at HG;have bP:=zbj bB;clear bz rr bg bY aD bB;generalize xs[i]=x at *;generalize (de x).length=zl at *;have bO:=zbj aK;clear aK aa bX;go_wp2_with fail
   refine HG.out.mono ?_;rintro e aO ⟨⟨aA,aC,rA,rC⟩,rfl,l1,l2,l3,l4,O⟩;have aU:=zbj (ni (L:=⟨aA,aC,rA,rC⟩) bO.out l1 l2 l3 l4);clear HG M J;unfold jW;simp only;obtain⟨ER,aZ⟩:∃ER,ER=gK ⟨aA,aC,rA,rC⟩ x:=⟨_,rfl⟩;rw[<-aZ]at O aU;clear aZ;have aj:=O;unfold fL gA at aj;go_wp2_with fail
   have bF:Mod (aO.alloc (.cells #[.slice aA x.added.length aC,.slice rA x.removed.length rC,.int .u32 (x.al:Int),.int .u32 (x.next:Int),.int .u64 (x.seq:Int)] 130)) w0 (fL Z p jj num i A cc zi D en (aE aO.heap.size (.cells #[.slice aA x.added.length aC,.slice rA x.removed.length rC,.int .u32 (x.al:Int),.int .u32 (x.next:Int),.int .u64 (x.seq:Int)] 130 (0,0))*(ER*G))) :=
    Mod.to (m:=Mod.alloc (m:=O) (.cells #[.slice aA x.added.length aC,.slice rA x.removed.length rC,.int .u32 (x.al:Int),.int .u32 (x.next:Int),.int .u64 (x.seq:Int)] 130)) (by unfold fL;ac_rfl)
   refine(MT Z p jj num i A cc zi D _ w0 _ en ⟨aA,aC,rA,rC⟩ x zj bF (aU.out.lift zbk) bV oMg).mono ?_;rintro e dz ⟨rfl,A',c',bT,bG⟩;clear O aj bF;have bH:=bG;unfold fL gA at bH;go_wp2_with fail
   go_roundg (N-(i+1))
   case measure=>omega
   case rel =>
    refine⟨i+1,A',c',zj,aH,rfl,by go_num,rfl,rfl,bP,bT,?_⟩;have bI:=J2 (i+1) bG;rw[show ((i+1:Nat):Int)=(i:Int)+1 by omega]at bI;exact Cp bI zbk
  ·have bW:¬(i:Int)<(N:Int):=oMg
   have Y:i=N:=oMg
   subst Y
   have bZ:zi=k:=by
    have h1:=HZ.out;rw[Zn (by rw[U.out];omega),HI.out.fold]at h1;exact(X5 h1).symm
   subst bZ;have bN:=zbj (yS Z p (ap jj) num i _ zi.nums D nm wr w0 _ M)
   have dh:(convert 67 9 (.slice B6 b.length c6)).run Tryz.prog wr=.ok (.string nm) wr:=by
    have h1:=tu (w:=wr) (c:=c6) (m:=M) (r:=ct (zbk:Sub _ G) bJ);rw[bS]at h1;exact h1
   clear bJ M;go_wp2_with (go_at_call 105;refine bN.out.mono ?_;rintro e aO ⟨rfl,O⟩)
   go_ret2
   refine⟨Z,jj,A,cc,lm D nm,rfl,by rw[<-aS.out];exact HI.out.open,ki.clear D nm,bU,?_⟩;rw[U.out,bQ.out];exact Cp O sG
theorem zU (y p:Nat)(j:Value)(num many:Nat)(z:Value)(k:Nat×Nat×Nat)(w w0:World)(F:ba)(m:Mod w w0 (gA y p j num many z k*F)):Calls Tryz.prog 69 #[ap y] w fun e E=>e=.returned (.int .u32 (k.2.1:Int))/\Mod E w0 (gA y p j num many z k*F):=by
 have B:=m;unfold gA at B;go_enter Tryz.func69,Tryz.ntmps69
 go_wp2_with fail
 go_ret
 exact⟨rfl,m⟩
end Go.Proofs.YtdfppjcaelghhaaGreatDoor
