/- Plain lemmas and contracts; the conditions are in each. -/
import Derived.Test.YtdfppjcaelghhaaGreatDoorReadG
import Derived.Test.YtdfppjcaelghhaaGreatDoorWrittenG
set_option maxHeartbeats 4000000
namespace Go.Proofs.YtdfppjcaelghhaaGreatDoor
open Go.RowKit Go.Sl
attribute [local go_sem] ab bh bd
theorem KI {w w0:World}{A B C D:ba}(m:Mod w w0 (A*(B*(C*D)))):Mod w w0 (B*(A*D)):=Mod.drop (A:=C) (m:=Mod.to (m:=m) (by ac_rfl))
def dt (j p:Nat)(name:ByteArray)(e:Nat):ba:=aE j (.cells #[ap p,.string name,.int .i64 (e:Int)] 134 (0,0))
theorem pL (j p:Nat)(name:ByteArray)(e:Int)(w w0:World)(S:ba)(m:Mod w w0 S) [jq S j (.cells #[ap p,.string name,.int .i64 e] 134 (0,0))] :
 Calls Tryz.prog 77 #[ap j] w fun e y=>e=.returned (.bool true)/\Mod y w0 S:=by
 go_enter Tryz.func77,Tryz.ntmps77
 go_wp2
 go_ret
 exact⟨rfl,zbk⟩
section
variable (j p:Nat)(D:aq)(name:ByteArray)(w w0:World)(F:ba)(B:Option Addr)(c:Nat)(rec:List UInt8)
theorem IU (y n:Nat)(m:Mod w w0 (bv p D*(dt j p name y*F)))(E:65536<n) :
 Calls Tryz.prog 33 #[ap j,.slice B n c] w fun e z=>e=.returned (.int .i64 3)/\Mod z w0 (bv p D*(dt j p name y*F)):=by
 unfold dt at m ⊢;go_enter Tryz.func33,Tryz.ntmps33
 go_wp2_with (go_at_call 77;refine(pL j p name _ _ w0 _ zbk).mono ?_;rintro e w1 ⟨rfl,_m1⟩)
 go_ret
 exact⟨rfl,_m1⟩
variable (g:Nat)(f:dr)(hs:name.size<=9223372036854775807)(hn:eo name=true)(hg:br D.now name=some g)(hf:cw D.files g=some f)
include hs hn hg hf
theorem K8 (m:Mod w w0 (bv p D*(dt j p name f.bytes.length*F)))(r:bk F B rec.length (b7 rec))(hc:rec.length<=c)(hl:rec.length<=65536)
 (h1:(fz f.bytes.length true rec).length<=leftOf D) (h2:f.bytes.length+(fz f.bytes.length true rec).length<=1048576) :
 Calls Tryz.prog 33 #[ap j,.slice B rec.length c] w fun e V=>e=.returned (.int .i64 0) /\
  Mod V w0 (bv p {D with files:=iS D.files g ⟨f.bytes++fz f.bytes.length true rec,f.sure⟩}*(dt j p name (f.bytes++fz f.bytes.length true rec).length*F)):=by
 unfold dt at m ⊢;obtain⟨out,E⟩:∃out,fz f.bytes.length true rec=out:=⟨_,rfl⟩;obtain⟨b,O⟩:∃b,f.bytes.length=b:=⟨_,rfl⟩;have M:=wk b B rec.length c rec;rw[E]at h1 h2 ⊢;rw[O]at E m h2;rw[E]at M;have HW:=zbj M;clear M;have K:=zbj O;clear O E;go_enter Tryz.func33,Tryz.ntmps33
 go_wp2_with (go_at_call 77;refine(pL j p name _ _ w0 _ zbk).mono ?_;rintro e w1 ⟨rfl,_m1⟩)
 obtain⟨I,y,z⟩:∃I,I=_/\Mod w1 w0 I:=⟨_,rfl,_m1⟩;have U:jq I j (.cells #[ap p,.string name,.int .i64 (b:Int)] 134 (0,0)):=by rw[y];infer_instance
 obtain⟨Y,hp⟩:∃Y,eM I (bv p) D Y:=⟨_,by rw[y];infer_instance⟩;have Z:Hid (∀u,Mod u w0 I->Calls Tryz.prog 47 #[ap p,.string name] u fun e V=>e=.returned (.tuple #[.int .i64 (b:Int),.int .i64 0])/\Mod V w0 I):=fun u mu=>by have:=wU p D name g f u w0 I _ mu hp hs hn hg hf;rw[K.out]at this;exact this
 have J:=zbj y;clear y;have:=jO.some z;refine dy z kRf kRf ?_
 repeat (go_big_quiet_step ((go_at_call 47;refine cW (Z.out _ ?_);exact zbk)))
 refine wpQuiet_nil ?_;rintro w3 ⟨s,rfl⟩;have m3:=Mod.to (m:=s.mod) J.out;clear Z z U hp J this;generalize s.world=w3 at *;go_wp2_with fail
 refine(HW.out w3 w0 _ m3 zbk hc oMg).mono ?_;rintro e w4 ⟨A',c',rfl,m4⟩;go_wp2_with fail
 obtain⟨I,y,z⟩:∃I,I=_/\Mod w4 w0 I:=⟨_,rfl,m4⟩;have U:jq I j (.cells #[ap p,.string name,.int .i64 (b:Int)] 134 (0,0)):=by rw[y];infer_instance
 have J:=zbj y;clear y;have:=jO.some z;refine dv 9 z kRf kRf ?_;simp only[List.take_succ_cons,List.take_zero,ZY,Z6]
 repeat (go_big_quiet_step (fail))
 refine wpQuiet_nil ?_;rintro w5 ⟨s,rfl⟩;have m5:=Mod.to (m:=s.mod) J.out;clear z U J this m4 m3;generalize s.world=w5 at *;go_wp2_with fail
 refine(wq p D name w5 w0 _ _ zbk zbk hs A' c' out g f hn hg hf h1 (by have:=K.out;omega)).mono ?_;rintro e w6 ⟨rfl,m6⟩;go_wp2_with fail
 go_ret
 have m7:Mod (w6.setCell ⟨j,2,none⟩ (.int .i64 ((b:Int)+(out.length:Int)))) w0 _:=zbk;simp only[b9]at m7;have e:((f.bytes++out).length:Int)=(b:Int)+(out.length:Int):=by rw[Ze,K.out];omega
 rw[e];exact⟨rfl,KI m7⟩
end
section
variable (j p:Nat)(D:aq)(name:ByteArray)(w w0:World)(F:ba)
theorem uA (J:Nat)(m:Mod w w0 (bv p D*(dt j p name J*F)))(hs:name.size<=9223372036854775807)(hn:eo name=true)(g:Nat)(f:dr)(hg:br D.now name=some g)(hf:cw D.files g=some f) :
 Calls Tryz.prog 43 #[ap j] w fun e U=>e=.returned (.int .i64 0)/\Mod U w0 (bv p {D with files:=iS D.files g ⟨f.bytes,f.bytes.length⟩}*(dt j p name J*F)):=by
 unfold dt at m ⊢;go_enter Tryz.func43,Tryz.ntmps43
 go_wp2_with (go_at_call 77;refine(pL j p name _ _ w0 _ zbk).mono ?_;rintro e w1 ⟨rfl,_m1⟩)
 obtain⟨I,y,z⟩:∃I,I=_/\Mod w1 w0 I:=⟨_,rfl,_m1⟩;have O:jq I j (.cells #[ap p,.string name,.int .i64 (J:Int)] 134 (0,0)):=by rw[y];infer_instance
 have E:=zbj y;clear y;have:=jO.some z;refine dv 8 z kRf kRf ?_;simp only[List.take_succ_cons,List.take_zero,ZY,Z6]
 repeat (go_big_quiet_step (fail))
 refine wpQuiet_nil ?_;rintro M ⟨s,rfl⟩;have V:=Mod.to (m:=s.mod) E.out;clear z O E this _m1;generalize s.world=M at *;go_wp2_with fail
 refine(wX p D name M w0 _ _ zbk zbk hs g f hn hg hf).mono ?_;rintro e Y ⟨rfl,K⟩;go_wp2_with fail
 go_ret
 exact⟨rfl,by rw[b9]at K;exact K⟩
end
open Go.RowKit Go.Sl
attribute [local go_sem] ab bh bd
theorem I8 (A:Option Addr)(n c:Nat)(z:n<=c)(w w0:World)(S:ba)(m:Mod w w0 S):Calls Tryz.prog 120 #[.slice A n c] w fun e y=>e=.returned (.slice A n n)/\Mod y w0 S:=by
 go_enter Tryz.func120,Tryz.ntmps120
 go_wp2
 go_ret
 exact⟨rfl,m⟩
theorem lZ.reads {R:ba}{xs:List Value}{rs:List (List UInt8)}(r:lZ R xs rs)(A:Option Addr)(c:Nat):jt (ar 67 1 (.slice A rs.length c) rs.length xs*R) A rs.length rs:=by
 obtain⟨hs,z,rfl,_,y⟩:=r;exact⟨rfl,hs,z,zbk,fun i a b=>⟨ct zbk (y i a b).1,(y i a b).2⟩⟩
theorem GK {w w0:World}{A B C D R F:ba}(m:Mod w w0 (A*(B*(R*(C*(D*F)))))):Mod w w0 (D*(A*((B*R)*F))):=Mod.drop (A:=C) (m:=Mod.to (m:=m) (by ac_rfl))
def CJ (R:ba)(A:Option Addr)(rs:List (List UInt8)):Prop:=∃(c:Nat)(xs:List Value)(G:ba),rs.length<=c/\lZ G xs rs/\R=ar 67 1 (.slice A rs.length c) rs.length xs*G
theorem CJ.reads {R:ba}{A:Option Addr}{rs:List (List UInt8)}(r:CJ R A rs):jt R A rs.length rs:=by
 obtain⟨c,xs,G,_,h,rfl⟩:=r;exact h.reads A c
def CI (p:Nat)(D:aq)(name:ByteArray)(F:ba)(y:List (List UInt8)×Nat)(w0:World)(e:Ending)(z:World):Prop :=
 ∃j A R,e=.returned (.tuple #[ap j,.slice A y.1.length y.1.length,.int .i64 0])/\CJ R A y.1/\Mod z w0 (bv p D*(dt j p name y.2*(R*F)))
def Dt (p:Nat)(D:aq)(name:ByteArray)(F:ba)(y:List (List UInt8)×Nat)(w0:World)(e:Ending)(z:World):Prop :=
 ∃j A R,e=.returned (.tuple #[ap j,.slice A y.1.length y.1.length,.int .i64 0])/\jt R A y.1.length y.1/\Mod z w0 (bv p D*(dt j p name y.2*(R*F)))
theorem CI.says {p:Nat}{D:aq}{name:ByteArray}{F:ba}{y:List (List UInt8)×Nat}{w0:World}{e:Ending}{z:World}(h:CI p D name F y w0 e z):Dt p D name F y w0 e z:=by
 obtain⟨j,A,R,E,I,J⟩:=h;exact⟨j,A,R,E,I.reads,J⟩
def MJ (p:Nat)(D:aq)(name:ByteArray)(F:ba)(w0:World)(e:Ending)(y:World):Prop:=∃g,cw D.files g=none/\Dt p (jY D name g) name F ([],0) w0 e y
def NU (p:Nat)(D:aq)(name:ByteArray)(F:ba)(w0:World)(e:Ending)(y:World):Prop:=∃g,cw D.files g=none/\CI p (jY D name g) name F ([],0) w0 e y
theorem GE {α:Type}{L:List (ByteArray×α)}{s:ByteArray}(h:br L s=none)(v:α):br (cV L s v) s=some v:=by
 rw[ph h];unfold br at h ⊢
 cases hf:L.find? (fun p=>decide (p.1=s))with
 | none=>rw[List.find?_append,hf];simp
 | some x=>rw[hf]at h;cases h
theorem EH:j3 []=([],0):=yj []
section
variable (p:Nat)(D:aq)(name:ByteArray)(w w0:World)(F:ba)(m:Mod w w0 (bv p D*F))(hs:name.size<=9223372036854775807)
include m hs
theorem wd (g:Nat)(f:dr)(hn:eo name=true)(hg:br D.now name=some g)(hf:cw D.files g=some f)(hb:f.bytes.length<=1048576) :
 Calls Tryz.prog 73 #[ap p,.string name] w (CI p D name F (j3 f.bytes) w0):=by
 obtain⟨E,z⟩:∃E,j3 f.bytes=E:=⟨_,rfl⟩;rw[z];have I:=zbj z;clear z;go_enter Tryz.func73,Tryz.ntmps73
 go_wp2_with fail
 refine(wU p D name g f _ w0 _ _ m zbk hs hn hg hf).mono ?_;rintro e w2 ⟨rfl,V⟩;go_wp2_with fail
 refine(II p D name w2 w0 _ _ V zbk hs 0 f.bytes.length g f hn hg hf oMg).mono ?_;rintro e K ⟨A1,c1,rfl,Y⟩;rw[Z6,Xc]at Y;have J:=rL (m:=Y);clear V;go_wp2_with fail
 have O:=Ks A1 f.bytes.length c1 f.bytes (K.alloc (.cells #[ap p,.string name,.int .i64 0] 134)) w0 _ zbk zbk J oMg;rw[I.out]at O;refine O.mono ?_;rintro e w4 ⟨M,U,xs,R,rfl,hr,m4⟩;have y:=rL (m:=m4);go_wp2_with fail
 have Z:Mod (w4.setCell ⟨K.heap.size,2,none⟩ (.int .i64 (E.2:Int))) w0 _:=zbk;simp only[b9]at Z;refine(I8 M E.1.length U y _ w0 _ Z).mono ?_;rintro e w6 ⟨rfl,m6⟩;go_wp2_with fail
 go_ret3
 exact⟨K.heap.size,M,_,rfl,⟨U,xs,R,y,hr,rfl⟩,GK m6⟩
theorem PF (g:Nat)(f:dr)(hn:eo name=true)(hg:br D.now name=some g)(hf:cw D.files g=some f)(y:f.bytes.length<=1048576) :
 Calls Tryz.prog 73 #[ap p,.string name] w (Dt p D name F (j3 f.bytes) w0) :=
 (wd p D name w w0 F m hs g f hn hg hf y).mono fun _ _ h=>h.says
theorem xI (hn:eo name=true)(hg:br D.now name=none)(z:D.now.length<64) :
 Calls Tryz.prog 73 #[ap p,.string name] w (NU p D name F w0):=by
 go_enter Tryz.func73,Tryz.ntmps73
 go_wp2_with fail
 refine(wT p D name _ w0 _ _ m zbk hs hn hg).mono ?_;rintro e w2 ⟨rfl,Z⟩;go_wp2_with fail
 refine(wy p D name w2 w0 _ _ Z zbk hs hn hg z).mono ?_;rintro e w3 ⟨g,rfl,E,m3⟩;go_wp2_with fail
 refine(II p (jY D name g) name w3 w0 _ _ m3 zbk hs 0 0 g ⟨[],0⟩ hn (GE hg g) (by simp[jY,cw]) (by simp)).mono ?_;rintro e I ⟨U,V,rfl,m4⟩;go_wp2_with fail
 have K:=Ks U 0 V [] (I.alloc (.cells #[ap p,.string name,.int .i64 0] 134)) w0 _ zbk zbk oMg oMg;rw[EH]at K;refine K.mono ?_;rintro e w5 ⟨J,M,xs,R,rfl,Y,m5⟩;have y:=rL (m:=m5);go_wp2_with fail
 have O:Mod (w5.setCell ⟨I.heap.size,2,none⟩ (.int .i64 0)) w0 _:=zbk;simp only[b9]at O;refine(I8 J 0 M y _ w0 _ O).mono ?_;rintro e w7 ⟨rfl,m7⟩;go_wp2_with fail
 go_ret3
 exact⟨g,E,I.heap.size,J,_,rfl,⟨M,xs,R,y,Y,rfl⟩,GK m7⟩
theorem JE (hn:eo name=true)(hg:br D.now name=none)(y:D.now.length<64) :
 Calls Tryz.prog 73 #[ap p,.string name] w (MJ p D name F w0) :=
 (xI p D name w w0 F m hs hn hg y).mono fun _ _ ⟨g,z,E⟩=>⟨g,z,E.says⟩
end
open Go.RowKit Go.Sl
attribute [local go_sem] ab bh bd tu
def nj:ByteArray:=⟨#[106]⟩
end Go.Proofs.YtdfppjcaelghhaaGreatDoor
