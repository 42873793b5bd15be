/- Plain lemmas and contracts; the conditions are in each. -/
import Derived.Test.YtdfppjcaelghhaaGreatDoorMfDG
set_option maxHeartbeats 16000000
set_option maxRecDepth 8000
namespace Go.Proofs.YtdfppjcaelghhaaGreatDoor
open Go.RowKit Go.Sl
attribute [local go_sem] ab bj bh bd
theorem Ni {w w0:World}{S:ba}{e size:TypeId}(m:Mod w w0 S):Mod w w0 (ar e size (.slice none 0 0) 0 []*S) :=
 ⟨m.os,m.tape,m.output,by
   rw[bo]
   refine⟨Hp.none,hp w,Hp.nK _,(Hp.join_none _).symm,⟨by simp,.inl ⟨rfl,rfl,rfl⟩⟩,m.says⟩⟩
theorem Ep (s:ByteArray)(w w0:World)(S:ba)(m:Mod w w0 S):Calls Tryz.prog 102 #[.string s] w fun e K=>e=.returned (.bool (gc s))/\Mod K w0 S:=by
 have B:=zbj (fun(u:World)(J:Mod u w0 S)=>mN s ⟨#[109]⟩ u w0 S J);obtain⟨z,y⟩:∃z,gc s=z:=⟨_,rfl⟩;have E:Lib.hasPrefix s.data.toList (⟨#[109]⟩:ByteArray).data.toList=z:=y;rw[E]at B;rw[y];clear E y;go_enter Tryz.func102,Tryz.ntmps102
 go_wp2_with (go_at_call 49;refine(B.out _ m).mono ?_;rintro e w1 ⟨rfl,I⟩)
 go_ret
 exact⟨rfl,I⟩
def uG (l:List ByteArray):Int:=match l.findIdx? gc with | some i=>(i:Int) | none => -1
theorem Kf {l:List ByteArray}{i:Nat}(y:i<l.length)(h:∀j (_:j<l.length),j<i->gc l[j]=false)(hp:gc l[i]=true):uG l=(i:Int):=by
 unfold uG
 have:l.findIdx? gc=some i:=by
  rw[Zk];exact⟨y,hp,fun j z=>by simp[h j (by omega) z]⟩
 rw[this]
theorem EB {l:List ByteArray}(h:∀j (_:j<l.length),gc l[j]=false):uG l = -1:=by
 unfold uG
 have:l.findIdx? gc=none:=by
  rw[ZV];intro x z;obtain⟨i,y,rfl⟩:=ZI.1 z;exact h i y
 rw[this]
theorem Bp (B:Option Addr)(n c:Nat)(l:List ByteArray)(w w0:World)(S:ba)(m:Mod w w0 S)(r:bk S B n (pT l))(hn:n<=1000000) :
 Calls Tryz.prog 100 #[.slice B n c,.func (.func 102) #[] #[]] w fun e w'=>e=.returned (.int .i64 (uG l))/\Mod w' w0 S:=by
 have K:l.length=n:=by have:=fp m r;simpa [pT]using this
 have R:=zbj r;have Hl:=zbj K;obtain⟨z,hz⟩:∃z,uG l=z:=⟨_,rfl⟩;rw[hz];have Hz:=zbj hz;clear r hz K;go_enter Tryz.func100,Tryz.ntmps100
 go_wp2_with fail
 go_loopg [8] n (fun gk iv wr=>∃i:Nat,i<=n/\gk=n-i/\iv=.int .i64 (i:Int)/\Hid (∀j (_:j<l.length),j<i->gc l[j]=false)/\Mod wr w0 S)
 case atStart=>exact⟨0,Zv _,rfl,rfl,(fun j _ X=>by omega),m⟩
 case round =>
  obtain⟨i,hi,aa,rfl,E,Y⟩:=hrel;by_cases U:i<n
  ·have Z:(i:Int)<(n:Int):=by omega
   have O:i<l.length:=by rw[Hl.out];exact U
   obtain⟨b,o,rfl,J⟩:=px Y R.out (by omega);have hc:=J i O;have V:=zbj (fun(u:World)(mu:Mod u w0 S)=>Ep l[i] u w0 S mu);clear J
   cases y:gc l[i]with
   | false =>
     rw[y]at V
     have M:Hid (∀j (_:j<l.length),j<i+1->gc l[j]=false):=fun j X ae=>by
      by_cases e:j=i
      ·subst e;exact y
      ·exact E.out j X (by omega)
     clear y;generalize l[i]=f at *;go_wp2_with (go_at_call 102;refine(V.out _ Y).mono ?_;rintro e w1 ⟨rfl,m2⟩)
     go_roundg (n-(i+1))
     case measure=>omega
     case rel=>exact⟨i+1,U,rfl,by go_num,M,m2⟩
   | true =>
     rw[y]at V;have I:Hid (z=(i:Int)):=by show _=_;rw[<-Hz.out];exact Kf O E.out y
     clear y;generalize l[i]=f at *;go_wp2_with (go_at_call 102;refine(V.out _ Y).mono ?_;rintro e w1 ⟨rfl,m2⟩)
     (try rw[Exit.noGoto_ret])
     go_ret
     exact⟨by rw[I.out];rfl,m2⟩
  ·have Z:¬(i:Int)<(n:Int):=by omega
   have I:Hid (z = -1):=by
    show _=_;rw[<-Hz.out];exact EB fun j X=>E.out j X (by have:=Hl.out;omega)
   go_wp2_with fail
   go_ret
   exact⟨by rw[I.out];rfl,Y⟩
def zm (l:List ByteArray):ByteArray:=match l.findIdx? gc with | some i=>l.getD i ⟨#[]⟩ | none=>⟨#[]⟩
theorem Eo (B:Option Addr)(n c:Nat)(l:List ByteArray)(w w0:World)(S:ba)(m:Mod w w0 S)(r:bk S B n (pT l))(hn:n<=1000000) :
 Calls Tryz.prog 103 #[.slice B n c,.func (.func 102) #[] #[]] w fun e Y=>e=.returned (.string (zm l))/\Mod Y w0 S:=by
 have E:l.length=n:=by have:=fp m r;simpa [pT]using this
 have K:=zbj (fun(u:World)(mu:Mod u w0 S)=>Bp B n c l u w0 S mu r hn);unfold zm;unfold uG at K
 cases J:l.findIdx? gc with
 | none =>
   rw[J]at K;clear r J E;go_enter Tryz.func103,Tryz.ntmps103
   go_wp2_with (go_at_call 100;refine(K.out _ m).mono ?_;rintro e w1 ⟨rfl,M⟩)
   go_ret
   exact⟨rfl,M⟩
 | some i =>
   rw[J]at K
   have I:i<l.length:=by
    rw[Zk]at J;exact J.1
   have aa:(i:Int)<(n:Int):=by omega
   have h0:(0:Int)<=(i:Int):=by omega
   have V:Hid (l.getD i ⟨#[]⟩=l[i]):=by show _=_;rw[Zw,Zg I];rfl
   obtain⟨b,o,rfl,_⟩:=px m r (by omega);have RR:=zbj r;have O:=zbj I;clear r J E;show Calls Tryz.prog _ _ _ fun e Y=>e=.returned (.string (l.getD i ⟨#[]⟩))/\_;rw[V.out];clear V;generalize X:l[i]=s at *;have Z:=zbj X;clear X I;go_enter Tryz.func103,Tryz.ntmps103
   go_wp2_with fail
   refine(K.out _ m).mono ?_;rintro e w1 ⟨rfl,M⟩;obtain⟨b2,o2,U,y⟩:=px M RR.out (by omega);injection U with U;injection U with hb1 hb2;subst hb1 hb2;have hc:=(y i O.out).trans (congrArg (fun z=>some (Value.string z)) Z.out);clear y;go_wp2_with fail
   go_ret
   exact⟨rfl,M⟩
def nX:ByteArray:=⟨#[120]⟩
theorem OL:eo nX=true:=pj (l:=[120]) (by decide) (by decide) (by decide)
def NS (p n:Nat)(w0:World)(F:ba)(e:Ending)(B:World):Prop :=
 (∃(z E:Nat)(y:aq),e=.returned (.tuple #[ap z,.int .i64 0])/\jG y 1 [] ji/\ki (ew n) y/\Mod B w0 (fL z p E 1 0 none 0 ji y (al [] (cf [])).length F)) \/
 (n<4096/\e=.returned (.tuple #[.pointer none,.int .i64 6])/\∃y,Mod B w0 (bv p y*F))
theorem Ek (n:Nat):e8 (ew n)=[]:=by simp[e8,ew]
theorem J0 (p n:Nat)(w w0:World)(F:ba)(m:Mod w w0 (bv p (ew n)*F))(tab:fX F):Calls Tryz.prog 54 #[ap p] w (NS p n w0 F):=by
 have Y:=zbj (wT p (ew n) nX w w0 _ F m ⟨rfl⟩ (by decide) OL rfl);have E:=zbj (p7 (F:=F) m ⟨rfl⟩);have O:=zbj (fun(u:World)(V:Mod u w0 (bv p (ew n)*F))=>tz p (ew n) u w0 _ F V ⟨rfl⟩);rw[Ek]at O;have T:=zbj tab;clear tab;go_enter Tryz.func54,Tryz.ntmps54
 have I:=True.intro
 go_wp2_with first
  | (go_at_call 47;clear I;refine Y.out.mono ?_;rintro e w1 ⟨rfl,m1⟩)
 go_wp2_with (go_at_call 50;refine(O.out _ m1).mono ?_;rintro e K ⟨B,c,rfl,m2⟩)
 have m3:Mod (K.alloc (.cells #[ap p,.pointer none,.int .u32 0,.int .i64 0,.slice none 0 0,.slice none 0 0,.slice none 0 0,.int .u32 0,.int .u32 0,.int .u64 0,.bool true] 152)) w0 (bv p (ew n)*(gA K.heap.size p (.pointer none) 0 0 (.slice none 0 0) (0,0,0)*F)) :=
  Mod.drop (A:=ar 9 1 (.slice B 0 c) 0 []) (m:=Mod.to (m:=Mod.alloc (m:=m2) (.cells #[ap p,.pointer none,.int .u32 0,.int .i64 0,.slice none 0 0,.slice none 0 0,.slice none 0 0,.int .u32 0,.int .u32 0,.int .u64 0,.bool true] 152)) (by unfold gA;simp only[Ye,List.length_nil];ac_rfl))
 have Z:zm []=⟨#[]⟩:=rfl;have z:=zbj (fun(u:World)(S:ba)(V:Mod u w0 S)=>Eo B 0 c [] u w0 S V (bk.jE B) (by omega));rw[Z]at z;clear m1 m2 Y O Z;generalize K.heap.size=J at *;generalize K.alloc (.cells #[ap p,.pointer none,.int .u32 0,.int .i64 0,.slice none 0 0,.slice none 0 0,.slice none 0 0,.int .u32 0,.int .u32 0,.int .u64 0,.bool true] 152)=w3 at *;refine(z.out _ _ m3).mono ?_;rintro e w4 ⟨rfl,m4⟩;clear m3 z;have rN:jt F none 0 []:=⟨rfl,[],rfl,qF,fun i h=>absurd h (by simp)⟩;go_wp2_with fail
 refine(xK J p (.pointer none) 0 0 (.slice none 0 0) (0,0,0) (ew n) none 0 0 [] _ w0 F m4 rN T.out (by decide) rfl rfl (by simp[ew]) (by omega)).mono ?_;rintro e w5 (⟨rfl,_,jj,g1,g2,q1,q2,q3⟩ | ⟨rfl,U,X,_,_,_,q4⟩)
 ·go_wp2_with fail
  go_ret2
  have y:cJ (lm (gO (ew n) (cD 1) (al [] []) g1 g2 7) (cD 1)):=p7 q3 ⟨rfl⟩;obtain⟨b1,b2,b3⟩:=Dw (D:=ew n) (num:=1) (rs:=[]) q1 q2;have hE:=ki.over E.out y b2 b3 rfl;have hf:=hE.few E.out y 50 (by simp[tY,ew]);refine .inl ⟨J,jj,lm (gO (ew n) (cD 1) (al [] []) g1 g2 7) (cD 1),rfl,⟨b1,rfl,Kb,by simp,by simp,by simp,hf,hf⟩,hE,?_⟩
  ·exact Mod.to (m:=Ni (e:=44) (size:=4) q3) (by unfold fL kJ dk.nums ji;simp only[List.length_nil,Yv,cf,Ye];ac_rfl)
 ·have M:=zbj (yS J p (.pointer none) 0 0 (.slice none 0 0) (0,0,0) X ⟨#[]⟩ w5 w0 F q4)
  have hn:n<4096:=by
   rcases XH n 4096 with h | h
   ·exact h
   ·refine absurd ⟨by simp,by simp[al],?_⟩ U
    have:=l8 (n:=0+1) (by decide);simp only[al,List.foldl_nil,List.length_nil,leftOf,ew,eh];omega
  go_wp2_with (go_at_call 105;refine M.out.mono ?_;rintro e w6 ⟨rfl,m6⟩)
  go_ret2
  exact .inr ⟨hn,rfl,lm X ⟨#[]⟩,Mod.drop (A:=gA J p (.pointer none) 0 0 (.slice none 0 0) (0,0,0)) (m:=Mod.to (m:=m6) (cC _ _ _))⟩
attribute [local go_sem] ab bj bh bd tu
theorem zU (y p:Nat)(j:Value)(num many:Nat)(z:Value)(k:Nat×Nat×Nat)(w w0:World)(F:ba)(m:Mod w w0 (gA y p j num many z k*F)):Calls Tryz.prog 69 #[ap y] w fun e E=>e=.returned (.int .u32 (k.2.1:Int))/\Mod E w0 (gA y p j num many z k*F):=by
 have B:=m;unfold gA at B;go_enter Tryz.func69,Tryz.ntmps69
 go_wp2_with fail
 go_ret
 exact⟨rfl,m⟩
end Go.Proofs.YtdfppjcaelghhaaGreatDoor
