/- Plain lemmas and contracts; the conditions are in each. -/
import Derived.BigRegion
import Derived.Deep.CutRange
import Derived.Deep.RegionWith
import Derived.Defers
import Derived.FnLit
import Derived.Test.YtdfppjcaelghhaaGreatDoorMfAG
set_option maxHeartbeats 16000000
set_option maxRecDepth 8000
namespace Go.Proofs.YtdfppjcaelghhaaGreatDoor
open Go.RowKit Go.Sl
attribute [local go_sem] ab bh bd
section
variable (j p:Nat)(D:aq)(name:ByteArray)(w w0:World)(F:ba)(B:Option Addr)(c:Nat)(rec:List UInt8)(g:Nat)(f:dr)(hs:name.size<=9223372036854775807)(hn:eo name=true)(hg:br D.now name=some g)(hf:cw D.files g=some f)
include hs hn hg hf
theorem K7 (m:Mod w w0 (bv p D*(dt j p name f.bytes.length*F)))(r:bk F B rec.length (b7 rec))(hc:rec.length<=c)(hl:rec.length<=65536)
 (O:f.bytes.length<=1048576) (h:leftOf D<(fz f.bytes.length true rec).length\/1048576<f.bytes.length+(fz f.bytes.length true rec).length) :
 Calls Tryz.prog 33 #[ap j,.slice B rec.length c] w fun e Y=>e=.returned (.int .i64 6) /\
  Mod Y w0 (bv p D*(dt j p name f.bytes.length*F)):=by
 unfold dt at m ⊢;obtain⟨out,E⟩:∃out,fz f.bytes.length true rec=out:=⟨_,rfl⟩;obtain⟨b,M⟩:∃b,f.bytes.length=b:=⟨_,rfl⟩;have K:=wk b B rec.length c rec;have V:=pF f.bytes.length rec;rw[E]at h V;rw[M]at E m h O ⊢;rw[E]at K;have HW:=zbj K;clear K;have Hb:=zbj M;clear M E;go_enter Tryz.func33,Tryz.ntmps33
 go_wp2_with (go_at_call 77;refine(pL j p name _ _ w0 _ zbk).mono ?_;rintro e w1 ⟨rfl,_m1⟩)
 obtain⟨I,y,z⟩:∃I,I=_/\Mod w1 w0 I:=⟨_,rfl,_m1⟩;have U:jq I j (.cells #[ap p,.string name,.int .i64 (b:Int)] 134 (0,0)):=by rw[y];infer_instance
 obtain⟨Z,hp⟩:∃Z,eM I (bv p) D Z:=⟨_,by rw[y];infer_instance⟩;have HC:Hid (∀u,Mod u w0 I->Calls Tryz.prog 47 #[ap p,.string name] u fun e Y=>e=.returned (.tuple #[.int .i64 (b:Int),.int .i64 0])/\Mod Y w0 I):=fun u mu=>by have:=wU p D name g f u w0 I _ mu hp hs hn hg hf;rw[Hb.out]at this;exact this
 have J:=zbj y;clear y;have:=jO.some z;refine dy z kRf kRf ?_
 repeat (go_big_quiet_step ((go_at_call 47;refine cW (HC.out _ ?_);exact zbk)))
 refine wpQuiet_nil ?_;rintro w3 ⟨s,rfl⟩;have m3:=Mod.to (m:=s.mod) J.out;clear HC z U hp J this;generalize s.world=w3 at *;go_wp2_with fail
 refine(HW.out w3 w0 _ m3 zbk hc oMg).mono ?_;rintro e w4 ⟨A',c',rfl,m4⟩;go_wp2_with fail
 obtain⟨I,y,z⟩:∃I,I=_/\Mod w4 w0 I:=⟨_,rfl,m4⟩;have U:jq I j (.cells #[ap p,.string name,.int .i64 (b:Int)] 134 (0,0)):=by rw[y];infer_instance
 have J:=zbj y;clear y;have:=jO.some z;refine dv 9 z kRf kRf ?_;simp only[List.take_succ_cons,List.take_zero,ZY,Z6]
 repeat (go_big_quiet_step (fail))
 refine wpQuiet_nil ?_;rintro w5 ⟨s,rfl⟩;have m5:=Mod.to (m:=s.mod) J.out;clear z U J this m4 m3;generalize s.world=w5 at *;go_wp2_with fail
 refine(xe p D name w5 w0 _ _ zbk zbk hs A' out.length c' g f hn hg hf oMg (by rw[Hb.out];exact h)).mono ?_;rintro e w6 ⟨rfl,m6⟩;go_wp2_with fail
 go_ret
 exact⟨rfl,Mod.keep m6⟩
end
def tQ (D:aq)(b:Nat)(rec:List UInt8):Prop:=rec.length<=65536/\(fz b true rec).length<=leftOf D/\b+(fz b true rec).length<=1048576
instance OG (D:aq)(b:Nat)(rec:List UInt8):Decidable (tQ D b rec):=by unfold tQ;infer_instance
def MH (j p:Nat)(D:aq)(name:ByteArray)(w0:World)(F:ba)(rec:List UInt8)(g:Nat)(f:dr)(e:Ending)(y:World):Prop :=
 (tQ D f.bytes.length rec/\e=.returned (.int .i64 0)/\Mod y w0 (bv p {D with files:=iS D.files g ⟨f.bytes++fz f.bytes.length true rec,f.sure⟩}*(dt j p name (f.bytes++fz f.bytes.length true rec).length*F))) \/
 (¬tQ D f.bytes.length rec/\∃r:Int,(r=3\/r=6)/\e=.returned (.int .i64 r)/\Mod y w0 (bv p D*(dt j p name f.bytes.length*F)))
theorem In (j p:Nat)(D:aq)(name:ByteArray)(w w0:World)(F:ba)(B:Option Addr)(c:Nat)(rec:List UInt8)(g:Nat)(f:dr)(hs:name.size<=9223372036854775807)(hn:eo name=true)(hg:br D.now name=some g)(hf:cw D.files g=some f)
 (m:Mod w w0 (bv p D*(dt j p name f.bytes.length*F))) (r:bk F B rec.length (b7 rec)) (E:rec.length<=c) (z:f.bytes.length<=1048576) :
 Calls Tryz.prog 33 #[ap j,.slice B rec.length c] w (MH j p D name w0 F rec g f):=by
 by_cases y:tQ D f.bytes.length rec
 ·exact(K8 j p D name w w0 F B c rec g f hs hn hg hf m r E y.1 y.2.1 y.2.2).mono fun e I ⟨h1,h2⟩=>.inl ⟨y,h1,h2⟩
 ·rcases XH 65536 rec.length with hl | hl
  ·exact(IU j p D name w w0 F B c f.bytes.length rec.length m hl).mono fun e I ⟨h1,h2⟩=>.inr ⟨y,3,.inl rfl,h1,h2⟩
  ·refine(K7 j p D name w w0 F B c rec g f hs hn hg hf m r E hl z ?_).mono fun e I ⟨h1,h2⟩=>.inr ⟨y,6,.inr rfl,h1,h2⟩
   unfold tQ at y;omega
open Go.RowKit Go.Sl
attribute [local go_sem] ab bj bh bd CS
section
variable (bm bn be mp p:Nat)(j:Value)(num many:Nat)(fs:Value)(k:Nat×Nat×Nat)(D:aq)(w w0:World)(F:ba)
theorem Hv (m:Mod w w0 (bv p D*(aE bm (.cells #[ap mp] 61 (0,0))*(gA mp p j num many fs k*F))))(hg:br D.now fY=none)(hroom:D.now.length<64) :
 Calls Tryz.prog 148 #[ap bm] w fun e I=>∃g,e=.returned (.int .i64 0)/\cw D.files g=none/\Mod I w0 (bv p (jY D fY g)*(aE bm (.cells #[ap mp] 61 (0,0))*(gA mp p j num many fs k*F))):=by
 unfold gA at m ⊢;have y:=zbj hg;clear hg;go_enter Tryz.func148,Tryz.ntmps148
 go_wp2_with first
  | (go_at_call 71;refine(sY p D fY _ w0 _ _ m zbk (by decide) uF y.out).mono ?_;rintro e w1 ⟨rfl,E⟩)
  | (go_at_call 118;refine(wy p D fY _ w0 _ _ E zbk (by decide) uF y.out hroom).mono ?_;rintro e J ⟨g,rfl,hf,z⟩)
 go_ret
 rw[b9]at z;exact⟨g,rfl,hf,z⟩
theorem HJ (m:Mod w w0 (bv p D*(aE bm (.cells #[ap mp] 61 (0,0))*(gA mp p j num many fs k*F))))(g:Nat)(f:dr)(hg:br D.now fY=some g)(hf:cw D.files g=some f) :
 Calls Tryz.prog 150 #[ap bm] w fun e I=>e=.returned (.int .i64 0)/\Mod I w0 (bv p {D with files:=iS D.files g ⟨f.bytes,f.bytes.length⟩}*(aE bm (.cells #[ap mp] 61 (0,0))*(gA mp p j num many fs k*F))):=by
 unfold gA at m ⊢;have E:=zbj hg;have z:=zbj hf;clear hg hf;go_enter Tryz.func150,Tryz.ntmps150
 go_wp2_with (go_at_call 92;refine(wX p D fY _ w0 _ _ m zbk (by decide) g f uF E.out z.out).mono ?_;rintro e w1 ⟨rfl,y⟩)
 go_ret
 rw[b9]at y;exact⟨rfl,y⟩
theorem HU (m:Mod w w0 (bv p D*(aE bm (.cells #[ap mp] 61 (0,0))*(gA mp p j num many fs k*F))))(g:Nat)(hg:br D.now fY=some g) :
 Calls Tryz.prog 151 #[ap bm] w fun e E=>e=.returned (.int .i64 0)/\Mod E w0 (bv p (yu D fY nM g)*(aE bm (.cells #[ap mp] 61 (0,0))*(gA mp p j num many fs k*F))):=by
 unfold gA at m ⊢;have z:=zbj hg;clear hg;go_enter Tryz.func151,Tryz.ntmps151
 go_wp2_with (go_at_call 152;refine(Ku p D fY _ w0 _ _ m zbk (by decide) nM (by decide) g (by rw[uF,Pc];rfl) z.out).mono ?_;rintro e w1 ⟨rfl,y⟩)
 go_ret
 rw[b9]at y;exact⟨rfl,y⟩
theorem Hw (nm:ByteArray)(m:Mod w w0 (bv p D*(aE bm (.cells #[ap mp] 61 (0,0))*(aE bn (.cells #[.string nm] 9 (0,0))*(gA mp p j num many fs k*F)))))(g:Nat)(hg:br D.now fY=some g)(hf:cw D.files g=some ⟨[],0⟩)(U:nm.size<=1000) :
 Calls Tryz.prog 149 #[ap bm,ap bn] w fun e z=>(nm.size<=leftOf D/\e=.returned (.int .i64 0)/\Mod z w0 (bv p {D with files:=iS D.files g ⟨nm.data.toList,0⟩}*(aE bm (.cells #[ap mp] 61 (0,0))*(aE bn (.cells #[.string nm] 9 (0,0))*(gA mp p j num many fs k*F))))) \/
  (leftOf D<nm.size/\e=.returned (.int .i64 6)/\Mod z w0 (bv p D*(aE bm (.cells #[ap mp] 61 (0,0))*(aE bn (.cells #[.string nm] 9 (0,0))*(gA mp p j num many fs k*F))))):=by
 unfold gA at m ⊢;obtain⟨R,y⟩:∃R,R=(aE bm (.cells #[ap mp] 61 (0,0))*(aE bn (.cells #[.string nm] 9 (0,0))*(aE mp (.cells #[ap p,j,.int .u32 (num:Int),.int .i64 (many:Int),fs,.slice none 0 0,.slice none 0 0,.int .u32 (k.1:Int),.int .u32 (k.2.1:Int),.int .u64 (k.2.2:Int),.bool true] 152 (0,0))*F))):=⟨_,rfl⟩;have E:Hid (nm.size=nm.data.toList.length):=(Array.length_toList).symm;rcases XH (leftOf D) nm.size with hl | hl
 ·have I:Hid (∀(u:World)(X:ba)(A:Option Addr)(c:Nat),Mod u w0 (X*(bv p D*R))->Calls Tryz.prog 79 #[ap p,.string fY,.slice A nm.size c] u fun e z=>e=.returned (.int .i64 6)/\Mod z w0 (bv p D*R)):=fun u X A c M =>
   (xe p D fY u w0 _ (X*R) M ⟨cC _ _ _⟩ (by decide) A nm.size c g ⟨[],0⟩ uF hg hf oMg (.inl hl)).mono fun e z ⟨h1,h2⟩=>⟨h1,Mod.drop (A:=X) (m:=Mod.to (m:=h2) (by ac_rfl))⟩
  rw[<-y]at m ⊢;have J:=zbj y;have h1:jq R bm (.cells #[ap mp] 61 (0,0)):=by rw[y];infer_instance
  have h2:jq R bn (.cells #[.string nm] 9 (0,0)):=by rw[y];infer_instance
  have O:jq R mp (.cells #[ap p,j,.int .u32 (num:Int),.int .i64 (many:Int),fs,.slice none 0 0,.slice none 0 0,.int .u32 (k.1:Int),.int .u32 (k.2.1:Int),.int .u64 (k.2.2:Int),.bool true] 152 (0,0)):=by rw[y];infer_instance
  clear y hg hf;go_enter Tryz.func149,Tryz.ntmps149
  go_wp2_with fail
  go_region_with (go_at_call 79;refine(I.out _ _ _ _ zbk).mono ?_;rintro e V ⟨rfl,K⟩)
  all_goals (go_wp2_with fail)
  all_goals go_ret
  all_goals exact .inr ⟨hl,rfl,K⟩
 ·have I:Hid (∀(u:World)(X:ba)(A:Option Addr)(c:Nat),Mod u w0 (X*(bv p D*R))->bk X A nm.size (b7 nm.data.toList)->Calls Tryz.prog 79 #[ap p,.string fY,.slice A nm.size c] u fun e z=>e=.returned (.int .i64 0)/\Mod z w0 (bv p {D with files:=iS D.files g ⟨nm.data.toList,0⟩}*R)):=fun u X A c M r=>by
   rw[E.out]at r ⊢;have:=wq p D fY u w0 _ (X*R) M ⟨cC _ _ _⟩ (by decide) A c nm.data.toList (r:=bk.left X R A _ _) g ⟨[],0⟩ uF hg hf (by rw[<-E.out];exact hl) (by show 0+_≤_;rw[<-E.out];omega);exact this.mono fun e z ⟨h1,h2⟩=>⟨h1,Mod.drop (A:=X) (m:=Mod.to (m:=h2) (cC _ _ _))⟩
  rw[<-y]at m ⊢;have J:=zbj y;have h1:jq R bm (.cells #[ap mp] 61 (0,0)):=by rw[y];infer_instance
  have h2:jq R bn (.cells #[.string nm] 9 (0,0)):=by rw[y];infer_instance
  have O:jq R mp (.cells #[ap p,j,.int .u32 (num:Int),.int .i64 (many:Int),fs,.slice none 0 0,.slice none 0 0,.int .u32 (k.1:Int),.int .u32 (k.2.1:Int),.int .u64 (k.2.2:Int),.bool true] 152 (0,0)):=by rw[y];infer_instance
  clear y hg hf;go_enter Tryz.func149,Tryz.ntmps149
  go_wp2_with fail
  go_region_with (go_at_call 79;refine(I.out _ _ _ _ zbk zbk).mono ?_;rintro e V ⟨rfl,K⟩)
  all_goals (go_wp2_with fail)
  all_goals go_ret
  all_goals exact .inl ⟨hl,rfl,K⟩
theorem KV (m:Mod w w0 (bv p D*(aE be (.cells #[.int .i64 0] 30 (0,0))*F)))(u:FrameMode) :
 CallsD Tryz.prog 147 #[ap be,ap bm,ap bn] u w fun e y z=>y=u/\e=.returned (.tuple #[])/\Mod z w0 (bv p D*(aE be (.cells #[.int .i64 0] 30 (0,0))*F)):=by
 go_enter_d Tryz.func147,Tryz.ntmps147
 go_wp2_with fail
 go_end0
 exact⟨rfl,m⟩
theorem KW (nm:ByteArray)(e0:Int)(m:Mod w w0 (bv p D*(aE be (.cells #[.int .i64 e0] 30 (0,0))*(aE bm (.cells #[ap mp] 61 (0,0))*(aE bn (.cells #[.string nm] 9 (0,0))*(gA mp p j num many fs k*F))))))(Y:e0≠0)(hn:eo nm=true)(u:FrameMode) :
 CallsD Tryz.prog 147 #[ap be,ap bm,ap bn] u w fun e u' w'=>u'=u/\e=.returned (.tuple #[])/\Mod w' w0 (bv p ⟨D.size,cG (cG D.now nm) fY,cG (cG D.now nm) fY,D.files⟩*(aE be (.cells #[.int .i64 6] 30 (0,0))*(aE bm (.cells #[ap mp] 61 (0,0))*(aE bn (.cells #[.string nm] 9 (0,0))*(gA mp p j num many fs k*F))))):=by
 unfold gA at m ⊢;have b:(e0==0)=false:=beq_eq_false_iff_ne.2 Y;have M:=zbj (fun(u:World)(X:ba)(J:Mod u w0 (bv p D*X))=>mi p D nm u w0 X J hn);have O:=zbj (fun(u:World)(X:ba)(J:Mod u w0 (bv p {D with now:=cG D.now nm}*X))=>mi p {D with now:=cG D.now nm} fY u w0 X J uF);have U:=zbj (fun(u:World)(X:ba)(J:Mod u w0 (bv p ⟨D.size,cG (cG D.now nm) fY,D.sure,D.files⟩*X))=>kL p ⟨D.size,cG (cG D.now nm) fY,D.sure,D.files⟩ u w0 _ X J ⟨rfl⟩);go_enter_d Tryz.func147,Tryz.ntmps147
 go_wp2_with fail
 obtain⟨E,y,z⟩:∃E,E=_/\Mod w w0 E:=⟨_,rfl,m⟩;have h1:jq E bm (.cells #[ap mp] 61 (0,0)):=by rw[y];infer_instance
 have h2:jq E bn (.cells #[.string nm] 9 (0,0)):=by rw[y];infer_instance
 have V:jq E mp (.cells #[ap p,j,.int .u32 (num:Int),.int .i64 (many:Int),fs,.slice none 0 0,.slice none 0 0,.int .u32 (k.1:Int),.int .u32 (k.2.1:Int),.int .u64 (k.2.2:Int),.bool true] 152 (0,0)):=by rw[y];infer_instance
 have I:=zbj y;clear y;have:=jO.some z;refine dv 5 z kRf kRf ?_;simp only[List.take_succ_cons,List.take_zero,ZY,Z6]
 repeat (go_big_quiet_step (fail))
 refine wpQuiet_nil ?_;rintro w5 ⟨s,rfl⟩;have Z:=Mod.to (m:=s.mod) I.out;clear z h1 h2 V I this m;generalize s.world=w5 at *;go_wp2_with fail
 refine(M.out _ _ Z).mono ?_;rintro e w6 ⟨r6,rfl,m6⟩;go_wp2_with fail
 refine(O.out _ _ m6).mono ?_;rintro e w7 ⟨r7,rfl,m7⟩;go_wp2_with fail
 refine(U.out _ _ m7).mono ?_;rintro e w8 ⟨rfl,m8⟩;go_wp2_with fail
 go_end0
 have K:=Mod.setCells (w:=w8) (m:=m8) (g:=be) (i:=0) (.int .i64 6) (cs:=#[.int .i64 e0]) (ty:=30) (fr:=(0,0)) (t:=zbk);rw[b9]at K;exact⟨rfl,Mod.to (m:=K) (cC _ _ _)⟩
end
open Go.RowKit Go.Sl
def mD (be bm bn mp p:Nat)(nm:ByteArray)(j:Value)(num many:Nat)(fs:Value)(k:Nat×Nat×Nat)(e0:Int)(F:ba):ba :=
 aE be (.cells #[.int .i64 e0] 30 (0,0))*(aE bm (.cells #[ap mp] 61 (0,0))*(aE bn (.cells #[.string nm] 9 (0,0))*(gA mp p j num many fs k*F)))
def BI (D:aq)(nm:ByteArray)(rs:List (List UInt8)):Prop:=(∀r∈rs,r.length<=65536)/\(al [] rs).length<=1048576/\(al [] rs).length+nm.size<=leftOf D
theorem ME {D:aq}{nm:ByteArray}{b:List UInt8}{g1 g2:Nat}(hok:cJ D)(h1:br D.now nm=none)(hg:cw D.files g1=none):leftOf (gO D nm b g1 g2 0)=leftOf D-b.length:=by
 show D.size-eh ((g1,⟨b,0⟩)::D.files) (cV D.now nm g1)=D.size-eh D.files D.now-b.length;rw[tH (f:=⟨b,0⟩) hok h1 hg];show D.size-(_+b.length)=_;omega
theorem Le (D:aq)(nm:ByteArray)(b y:List UInt8)(g1 g2:Nat):({gO D nm b g1 g2 0 with files:=iS (gO D nm b g1 g2 0).files g1 ⟨y,0⟩}:aq)=gO D nm y g1 g2 0:=by
 simp[gO,iS]
theorem Ma {D:aq}{nm:ByteArray}{rs:List (List UInt8)}{i g1 g2:Nat}(hok:cJ D)(h1:br D.now nm=none)(hg:cw D.files g1=none)(y:i<rs.length)
 (h:¬tQ (gO D nm (al [] (rs.take i)) g1 g2 0) (al [] (rs.take i)).length rs[i]):¬BI D nm rs:=by
 intro hf;apply h;have z:al [] (rs.take (i+1))=al [] (rs.take i)++fz (al [] (rs.take i)).length true rs[i]:=by rw[Zx y,mP]
 have E:=C4 rs (show i+1<=rs.length from y);rw[Xc,z,Ze]at E;refine⟨hf.1 _ (Zq y),?_,?_⟩
 ·rw[ME hok h1 hg]
  have:=hf.2.2;omega
 ·have:=hf.2.1
  omega
structure MI (D D':aq)(nm:ByteArray):Prop where
 over:Over D D'
 now:cG (cG D'.now nm) fY=D.now
theorem wO {L:qP}{s:ByteArray}(g:Nat)(h:br L s=none):cG (cV L s g) s=L:=by
 rw[ph h];unfold cG;rw[Yp];have h1:L.filter (fun p => !decide (p.1=s))=L:=zX h;rw[h1];simp
theorem J4 (L:qP)(s t:ByteArray):cG (cG L s) t=cG (cG L t) s:=by
 unfold cG;rw[Y8,Y8];exact Y4 fun q _=>Bool.and_comm _ _
theorem Ld {D:aq}{nm:ByteArray}{b:List UInt8}{g1 g2:Nat}(h1:br D.now nm=none)(h2:br D.now fY=none)(hg:cw D.files g1=none):MI D (gO D nm b g1 g2 0) nm :=
 ⟨⟨rfl,fun _ _ h=>nC hg _ _ _ h⟩,by show cG (cG (cV D.now nm g1) nm) fY=_;rw[wO g1 h1,zX h2]⟩
theorem ML {D:aq}{nm:ByteArray}{b:List UInt8}{g1 g2:Nat}(h1:br D.now nm=none)(h2:br D.now fY=none)(hne:fY≠nm)(hg:cw D.files g1=none)(y:cw ((g1,(⟨b,b.length⟩:dr))::D.files) g2=none):MI D (gO D nm b g1 g2 2) nm :=
 ⟨⟨rfl,fun _ _ h=>nC y _ _ _ (nC hg _ _ _ h)⟩,by
   show cG (cG (cV (cV D.now nm g1) fY g2) nm) fY=_
   rw[J4,wO g2 (by rw[fN,if_neg hne];exact h2),wO g1 h1]⟩
section
variable (be bm bn mp p jj:Nat)(nm:ByteArray)(j:Value)(num many:Nat)(fs:Value)(k:Nat×Nat×Nat)(D:aq)(b:List UInt8)(g1 g2:Nat)(w w0:World)(F:ba)
abbrev gR (be bm bn mp p jj:Nat)(nm:ByteArray)(j:Value)(num many:Nat)(fs:Value)(k:Nat×Nat×Nat)(en:Nat)(D:aq)(e0:Int)(F:ba):ba:=bv p D*(dt jj p nm en*mD be bm bn mp p nm j num many fs k e0 F)
theorem nz (en:Nat)(e0:Int)(D:aq):gR be bm bn mp p jj nm j num many fs k en D e0 F=bv p D*(aE bm (.cells #[ap mp] 61 (0,0))*(gA mp p j num many fs k*(dt jj p nm en*(aE be (.cells #[.int .i64 e0] 30 (0,0))*(aE bn (.cells #[.string nm] 9 (0,0))*F))))):=by
 unfold gR mD;ac_rfl
theorem uh (en:Nat)(e0:Int)(D:aq):gR be bm bn mp p jj nm j num many fs k en D e0 F=bv p D*(aE bm (.cells #[ap mp] 61 (0,0))*(aE bn (.cells #[.string nm] 9 (0,0))*(gA mp p j num many fs k*(dt jj p nm en*(aE be (.cells #[.int .i64 e0] 30 (0,0))*F))))):=by
 unfold gR mD;ac_rfl
theorem tt (en:Nat)(e0:Int)(D:aq):gR be bm bn mp p jj nm j num many fs k en D e0 F=bv p D*(aE be (.cells #[.int .i64 e0] 30 (0,0))*(aE bm (.cells #[ap mp] 61 (0,0))*(aE bn (.cells #[.string nm] 9 (0,0))*(gA mp p j num many fs k*(dt jj p nm en*F))))):=by
 unfold gR mD;ac_rfl
variable (hne:fY≠nm)(sh:eo nm=true)(h2:br D.now fY=none)(hroom:D.now.length<=61)
include sh in
theorem O2 (m:Mod w w0 (gR be bm bn mp p jj nm j num many fs k b.length (gO D nm b g1 g2 0) 0 F)) :
 Calls Tryz.prog 43 #[ap jj] w fun e y=>e=.returned (.int .i64 0)/\Mod y w0 (gR be bm bn mp p jj nm j num many fs k b.length (gO D nm b g1 g2 1) 0 F):=by
 have hs:nm.size<=9223372036854775807:=by have:=nJ sh;omega
 have hg:br (gO D nm b g1 g2 0).now nm=some g1:=by show br (cV D.now nm g1) nm=_;rw[fN,if_pos rfl]
 have hf:cw (gO D nm b g1 g2 0).files g1=some ⟨b,0⟩:=by simp[gO,cw]
 refine(uA jj p (gO D nm b g1 g2 0) nm w w0 _ b.length m hs sh g1 ⟨b,0⟩ hg hf).mono fun e y ⟨z,E⟩=>⟨z,?_⟩;have e:({gO D nm b g1 g2 0 with files:=iS (gO D nm b g1 g2 0).files g1 ⟨b,b.length⟩}:aq)=gO D nm b g1 g2 1:=by simp[gO,iS]
 rw[<-e];exact E
include hne h2 hroom in
theorem O3 (m:Mod w w0 (gR be bm bn mp p jj nm j num many fs k b.length (gO D nm b g1 g2 1) 0 F)) :
 Calls Tryz.prog 148 #[ap bm] w fun e y=>∃g,e=.returned (.int .i64 0)/\cw ((g1,(⟨b,b.length⟩:dr))::D.files) g=none/\Mod y w0 (gR be bm bn mp p jj nm j num many fs k b.length (gO D nm b g1 g 2) 0 F):=by
 rw[nz]at m;have hg:br (gO D nm b g1 g2 1).now fY=none:=by show br (cV D.now nm g1) fY=_;rw[fN,if_neg hne];exact h2
 have z:(gO D nm b g1 g2 1).now.length<64:=by have:=sS D.now nm g1;show (cV D.now nm g1).length<64;omega
 refine(Hv bm mp p j num many fs k _ w w0 _ m hg z).mono fun e y ⟨g,E,I,J⟩=>⟨g,E,I,?_⟩;rw[nz];exact J
theorem O4 (m:Mod w w0 (gR be bm bn mp p jj nm j num many fs k b.length (gO D nm b g1 g2 2) 0 F))(y:nm.size<=1000) :
 Calls Tryz.prog 149 #[ap bm,ap bn] w fun e J=>(nm.size<=leftOf (gO D nm b g1 g2 2)/\e=.returned (.int .i64 0)/\Mod J w0 (gR be bm bn mp p jj nm j num many fs k b.length (gO D nm b g1 g2 3) 0 F)) \/
  (leftOf (gO D nm b g1 g2 2)<nm.size/\e=.returned (.int .i64 6)/\Mod J w0 (gR be bm bn mp p jj nm j num many fs k b.length (gO D nm b g1 g2 2) 0 F)):=by
 rw[uh]at m;have hg:br (gO D nm b g1 g2 2).now fY=some g2:=by show br (cV _ fY g2) fY=_;rw[fN,if_pos rfl]
 have hf:cw (gO D nm b g1 g2 2).files g2=some ⟨[],0⟩:=by simp[gO,cw]
 have e:({gO D nm b g1 g2 2 with files:=iS (gO D nm b g1 g2 2).files g2 ⟨nm.data.toList,0⟩}:aq)=gO D nm b g1 g2 3:=by simp[gO,iS]
 refine(Hw bm bn mp p j num many fs k _ w w0 _ nm m g2 hg hf y).mono fun K J h=>?_;rcases h with⟨z,E,I⟩ | ⟨z,E,I⟩
 ·refine .inl ⟨z,E,?_⟩
  rw[uh,<-e];exact I
 ·refine .inr ⟨z,E,?_⟩
  rw[uh];exact I
theorem O5 (m:Mod w w0 (gR be bm bn mp p jj nm j num many fs k b.length (gO D nm b g1 g2 3) 0 F)) :
 Calls Tryz.prog 150 #[ap bm] w fun e y=>e=.returned (.int .i64 0)/\Mod y w0 (gR be bm bn mp p jj nm j num many fs k b.length (gO D nm b g1 g2 4) 0 F):=by
 rw[nz]at m;have hg:br (gO D nm b g1 g2 3).now fY=some g2:=by show br (cV _ fY g2) fY=_;rw[fN,if_pos rfl]
 have hf:cw (gO D nm b g1 g2 3).files g2=some ⟨nm.data.toList,0⟩:=by simp[gO,cw]
 have e:({gO D nm b g1 g2 3 with files:=iS (gO D nm b g1 g2 3).files g2 ⟨nm.data.toList,nm.data.toList.length⟩}:aq)=gO D nm b g1 g2 4:=by simp[gO,iS]
 refine(HJ bm mp p j num many fs k _ w w0 _ m g2 _ hg hf).mono fun I y ⟨z,E⟩=>⟨z,?_⟩;rw[nz,<-e];exact E
theorem O6 (m:Mod w w0 (gR be bm bn mp p jj nm j num many fs k b.length (gO D nm b g1 g2 4) 0 F)) :
 Calls Tryz.prog 74 #[ap p] w fun e y=>e=.returned (.int .i64 0)/\Mod y w0 (gR be bm bn mp p jj nm j num many fs k b.length (gO D nm b g1 g2 5) 0 F) :=
 (kL p _ w w0 _ _ m ⟨rfl⟩).mono fun _ _ h=>h
theorem O7 (m:Mod w w0 (gR be bm bn mp p jj nm j num many fs k b.length (gO D nm b g1 g2 5) 0 F)) :
 Calls Tryz.prog 151 #[ap bm] w fun e y=>e=.returned (.int .i64 0)/\Mod y w0 (gR be bm bn mp p jj nm j num many fs k b.length (gO D nm b g1 g2 6) 0 F):=by
 rw[nz]at m;have hg:br (gO D nm b g1 g2 5).now fY=some g2:=by show br (cV _ fY g2) fY=_;rw[fN,if_pos rfl]
 refine(HU bm mp p j num many fs k _ w w0 _ m g2 hg).mono fun I y ⟨z,E⟩=>⟨z,?_⟩;rw[nz];exact E
theorem O8 (m:Mod w w0 (gR be bm bn mp p jj nm j num many fs k b.length (gO D nm b g1 g2 6) 0 F)) :
 Calls Tryz.prog 74 #[ap p] w fun e y=>e=.returned (.int .i64 0)/\Mod y w0 (gR be bm bn mp p jj nm j num many fs k b.length (gO D nm b g1 g2 7) 0 F) :=
 (kL p _ w w0 _ _ m ⟨rfl⟩).mono fun _ _ h=>h
theorem jI (en:Nat)(e0 y:Int)(D1:aq)(m:Mod w w0 (gR be bm bn mp p jj nm j num many fs k en D1 e0 F)) :
 Mod (w.setCell ⟨be,0,none⟩ (.int .i64 y)) w0 (gR be bm bn mp p jj nm j num many fs k en D1 y F):=by
 rw[tt]at m;have z:=Mod.setCells (w:=w) (m:=m) (g:=be) (i:=0) (.int .i64 y) (cs:=#[.int .i64 e0]) (ty:=30) (fr:=(0,0)) (t:=zbk);rw[b9]at z;rw[tt];exact Mod.to (m:=z) (cC _ _ _)
end
def NB (D:aq)(nm:ByteArray)(rs:List (List UInt8))(g1 i:Nat)(e0:Int)(en:Nat)(D1:aq):Prop :=
 (e0=0/\en=(al [] (rs.take i)).length/\D1=gO D nm (al [] (rs.take i)) g1 0 0/\∀r∈rs.take i,r.length<=65536)\/(e0≠0/\MI D D1 nm/\¬BI D nm rs)
def BJ (D:aq)(nm:ByteArray)(rs:List (List UInt8))(g1 i:Nat)(e0:Int)(en:Nat)(D1:aq):Prop :=
 (e0=0/\en=(al [] rs).length/\∃g2,(2<=i->cw ((g1,(⟨al [] rs,(al [] rs).length⟩:dr))::D.files) g2=none)/\D1=gO D nm (al [] rs) g1 g2 i/\∀r∈rs,r.length<=65536)\/(e0≠0/\MI D D1 nm/\¬BI D nm rs)
theorem NB.next {D:aq}{nm:ByteArray}{rs:List (List UInt8)}{g1 i z:Nat}{e0:Int}{en:Nat}{D1:aq}(h:NB D nm rs g1 i e0 en D1)(y:e0≠0):NB D nm rs g1 z e0 en D1:=h.elim (fun h=>absurd h.1 y) .inr
theorem BJ.next {D:aq}{nm:ByteArray}{rs:List (List UInt8)}{g1 i z:Nat}{e0:Int}{en:Nat}{D1:aq}(h:BJ D nm rs g1 i e0 en D1)(y:e0≠0):BJ D nm rs g1 z e0 en D1:=h.elim (fun h=>absurd h.1 y) .inr
theorem NB.last {D:aq}{nm:ByteArray}{rs:List (List UInt8)}{g1 i:Nat}{e0:Int}{en:Nat}{D1:aq}(h:NB D nm rs g1 i e0 en D1)(E:i=rs.length):BJ D nm rs g1 0 e0 en D1:=by
 subst E;rcases h with⟨h1,h2,y,z⟩ | h
 ·rw[Xc]at h2 y z
  exact .inl ⟨h1,h2,0,fun h=>by omega,y,z⟩
 ·exact .inr h
section
variable (be bm bn mp p jj:Nat)(nm:ByteArray)(j:Value)(num many:Nat)(fs:Value)(k:Nat×Nat×Nat)(D:aq)(rs:List (List UInt8))(g1:Nat)(w w0:World)(F:ba)
variable (hok:cJ D)(sh:eo nm=true)(h1:br D.now nm=none)(h2:br D.now fY=none)(hne:fY≠nm)(hroom:D.now.length<=61)(hg1:cw D.files g1=none)
def oe (e:Ending)(E:World)(Q:Int->Nat->aq->Prop):Prop:=∃(z:Int)(en:Nat)(y:aq),e=.returned (.int .i64 z)/\Q z en y/\Mod E w0 (gR be bm bn mp p jj nm j num many fs k en y 0 F)
include hok sh h1 h2 hg1 in
theorem No {i:Nat}(z:i<rs.length){en:Nat}{D1:aq}(h:NB D nm rs g1 i 0 en D1)(m:Mod w w0 (gR be bm bn mp p jj nm j num many fs k en D1 0 F))(B:Option Addr)(c:Nat)(r:bk F B rs[i].length (b7 rs[i]))(V:rs[i].length<=c) :
 Calls Tryz.prog 33 #[ap jj,.slice B rs[i].length c] w fun e M=>oe be bm bn mp p jj nm j num many fs k w0 F e M (NB D nm rs g1 (i+1)):=by
 rcases h with⟨_,rfl,rfl,E⟩ | h
 ·have hs:nm.size<=9223372036854775807:=by have:=nJ sh;omega
  have hg:br (gO D nm (al [] (rs.take i)) g1 0 0).now nm=some g1:=by show br (cV D.now nm g1) nm=_;rw[fN,if_pos rfl]
  have hf:cw (gO D nm (al [] (rs.take i)) g1 0 0).files g1=some ⟨al [] (rs.take i),0⟩:=by simp[gO,cw]
  have O:al [] (rs.take (i+1))=al [] (rs.take i)++fz (al [] (rs.take i)).length true rs[i]:=by rw[Zx z,mP]
  have U:(al [] (rs.take i)).length<=1048576:=(p7 (F:=dt jj p nm (al [] (rs.take i)).length*mD be bm bn mp p nm j num many fs k 0 F) m ⟨rfl⟩).len (g1,⟨al [] (rs.take i),0⟩) (Zj ..);have Y:bk (mD be bm bn mp p nm j num many fs k 0 F) B rs[i].length (b7 rs[i]):=by unfold mD;exact ct zbk r
  refine(In jj p (gO D nm (al [] (rs.take i)) g1 0 0) nm w w0 _ B c rs[i] g1 ⟨al [] (rs.take i),0⟩ hs sh hg hf m Y V U).mono fun e M h=>?_;rcases h with⟨I,J,K⟩ | ⟨I,r',Z,J,K⟩
  ·refine⟨0,_,_,J,.inl ⟨rfl,rfl,rfl,fun r y=>?_⟩,?_⟩
   ·rw[Zx z,ZA,ZE]at y
    rcases y with y | rfl
    ·exact E r y
    ·exact I.1
   rw[O,<-Le D nm (al [] (rs.take i))];exact K
  ·exact⟨r',_,_,J,.inr ⟨oMg,Ld h1 h2 hg1,Ma hok h1 hg1 z I⟩,K⟩
 ·exact absurd rfl h.1
include sh in
theorem OP {en:Nat}{D1:aq}(h:BJ D nm rs g1 0 0 en D1)(m:Mod w w0 (gR be bm bn mp p jj nm j num many fs k en D1 0 F)) :
 Calls Tryz.prog 43 #[ap jj] w fun e z=>oe be bm bn mp p jj nm j num many fs k w0 F e z (BJ D nm rs g1 1):=by
 rcases h with⟨_,rfl,g2,E,rfl,y⟩ | h
 ·exact(O2 be bm bn mp p jj nm j num many fs k D _ g1 g2 w w0 F sh m).mono fun e z ⟨I,J⟩=>⟨0,_,_,I,.inl ⟨rfl,rfl,g2,fun h=>by omega,rfl,y⟩,J⟩
 ·exact absurd rfl h.1
include hne h2 hroom in
theorem OQ {en:Nat}{D1:aq}(h:BJ D nm rs g1 1 0 en D1)(m:Mod w w0 (gR be bm bn mp p jj nm j num many fs k en D1 0 F)) :
 Calls Tryz.prog 148 #[ap bm] w fun e z=>oe be bm bn mp p jj nm j num many fs k w0 F e z (BJ D nm rs g1 2):=by
 rcases h with⟨_,rfl,g2,E,rfl,y⟩ | h
 ·exact(O3 be bm bn mp p jj nm j num many fs k D _ g1 g2 w w0 F hne h2 hroom m).mono fun e z ⟨g,J,I,K⟩=>⟨0,_,_,J,.inl ⟨rfl,rfl,g,fun _=>I,rfl,y⟩,K⟩
 ·exact absurd rfl h.1
include hok h1 h2 hne hg1 in
theorem OR {en:Nat}{D1:aq}(h:BJ D nm rs g1 2 0 en D1)(m:Mod w w0 (gR be bm bn mp p jj nm j num many fs k en D1 0 F))(M:nm.size<=1000) :
 Calls Tryz.prog 149 #[ap bm,ap bn] w fun e Y=>oe be bm bn mp p jj nm j num many fs k w0 F e Y (BJ D nm rs g1 3):=by
 rcases h with⟨_,rfl,g2,y,rfl,O⟩ | h
 ·refine(O4 be bm bn mp p jj nm j num many fs k D _ g1 g2 w w0 F m M).mono fun e Y h=>?_
  rcases h with⟨_,U,V⟩ | ⟨q0,U,V⟩
  ·exact⟨0,_,_,U,.inl ⟨rfl,rfl,g2,fun _=>y (Zm _),rfl,O⟩,V⟩
  ·refine⟨6,_,_,U,.inr ⟨by decide,ML h1 h2 hne hg1 (y (Zm _)),fun hf=>?_⟩,V⟩
   have e:leftOf (gO D nm (al [] rs) g1 g2 2)=leftOf D-(al [] rs).length:=by
    have K:br (cV D.now nm g1) fY=none:=by rw[fN,if_neg hne];exact h2
    show D.size-eh ((g2,⟨[],0⟩)::(g1,⟨al [] rs,(al [] rs).length⟩)::D.files) (cV (cV D.now nm g1) fY g2)=D.size-eh D.files D.now-(al [] rs).length
    have z:g2 ∉ (cV D.now nm g1).map (·.2):=by
     intro Z;obtain⟨q,J,E⟩:=Zz.1 Z;rw[ph h1,ZA,ZE]at J;have I:=y (Zm _);simp only[cw]at I
     split at I
     ·cases I
     ·rename_i OJ
      rcases J with J | rfl
      ·have:=hok.now q J
       rw[E,I]at this;cases this
      ·exact OJ E
    rw[ph K,rY,uP _ _ _ _ z,tH (f:=⟨al [] rs,(al [] rs).length⟩) hok h1 hg1];simp only[eh,cw,if_pos,Option.map_some,Option.getD_some,List.length_nil,Nat.add_zero];omega
   rw[e]at q0;have:=hf.2.2;omega
 ·exact absurd rfl h.1
theorem OS {en:Nat}{D1:aq}(h:BJ D nm rs g1 3 0 en D1)(m:Mod w w0 (gR be bm bn mp p jj nm j num many fs k en D1 0 F)) :
 Calls Tryz.prog 150 #[ap bm] w fun e E=>oe be bm bn mp p jj nm j num many fs k w0 F e E (BJ D nm rs g1 4):=by
 rcases h with⟨_,rfl,g2,y,rfl,z⟩ | h
 ·exact(O5 be bm bn mp p jj nm j num many fs k D _ g1 g2 w w0 F m).mono fun e E ⟨I,J⟩=>⟨0,_,_,I,.inl ⟨rfl,rfl,g2,fun _=>y oMg,rfl,z⟩,J⟩
 ·exact absurd rfl h.1
theorem OT {en:Nat}{D1:aq}(h:BJ D nm rs g1 4 0 en D1)(m:Mod w w0 (gR be bm bn mp p jj nm j num many fs k en D1 0 F)) :
 Calls Tryz.prog 74 #[ap p] w fun e E=>oe be bm bn mp p jj nm j num many fs k w0 F e E (BJ D nm rs g1 5):=by
 rcases h with⟨_,rfl,g2,y,rfl,z⟩ | h
 ·exact(O6 be bm bn mp p jj nm j num many fs k D _ g1 g2 w w0 F m).mono fun e E ⟨I,J⟩=>⟨0,_,_,I,.inl ⟨rfl,rfl,g2,fun _=>y oMg,rfl,z⟩,J⟩
 ·exact absurd rfl h.1
theorem OU {en:Nat}{D1:aq}(h:BJ D nm rs g1 5 0 en D1)(m:Mod w w0 (gR be bm bn mp p jj nm j num many fs k en D1 0 F)) :
 Calls Tryz.prog 151 #[ap bm] w fun e E=>oe be bm bn mp p jj nm j num many fs k w0 F e E (BJ D nm rs g1 6):=by
 rcases h with⟨_,rfl,g2,y,rfl,z⟩ | h
 ·exact(O7 be bm bn mp p jj nm j num many fs k D _ g1 g2 w w0 F m).mono fun e E ⟨I,J⟩=>⟨0,_,_,I,.inl ⟨rfl,rfl,g2,fun _=>y oMg,rfl,z⟩,J⟩
 ·exact absurd rfl h.1
theorem OV {en:Nat}{D1:aq}(h:BJ D nm rs g1 6 0 en D1)(m:Mod w w0 (gR be bm bn mp p jj nm j num many fs k en D1 0 F)) :
 Calls Tryz.prog 74 #[ap p] w fun e E=>oe be bm bn mp p jj nm j num many fs k w0 F e E (BJ D nm rs g1 7):=by
 rcases h with⟨_,rfl,g2,y,rfl,z⟩ | h
 ·exact(O8 be bm bn mp p jj nm j num many fs k D _ g1 g2 w w0 F m).mono fun e E ⟨I,J⟩=>⟨0,_,_,I,.inl ⟨rfl,rfl,g2,fun _=>y oMg,rfl,z⟩,J⟩
 ·exact absurd rfl h.1
end
section
variable (be bm bn mp p jj:Nat)(nm:ByteArray)(j:Value)(num many:Nat)(fs:Value)(k:Nat×Nat×Nat)(en:Nat)(D1:aq)(e0:Int)(w w0:World)(F:ba)
theorem IX (E:Value)(z y:Nat)(m:Mod w w0 (gR be bm bn mp p jj nm j num many fs k en D1 e0 F)) :
 Mod (((w.setCell ⟨mp,1,none⟩ E).setCell ⟨mp,2,none⟩ (.int .u32 (z:Int))).setCell ⟨mp,3,none⟩ (.int .i64 (y:Int))) w0 (gR be bm bn mp p jj nm E z y fs k en D1 e0 F):=by
 have e:∀(j:Value)(num many:Nat),gR be bm bn mp p jj nm j num many fs k en D1 e0 F=gA mp p j num many fs k*(bv p D1*(dt jj p nm en*(aE be (.cells #[.int .i64 e0] 30 (0,0))*(aE bm (.cells #[ap mp] 61 (0,0))*(aE bn (.cells #[.string nm] 9 (0,0))*F))))):=fun j num many=>by
  unfold gR mD;ac_rfl
 rw[e]at m ⊢;unfold gA at m;have I:=Mod.setCells (w:=w) (m:=m) (g:=mp) (i:=1) E (t:=⟨rfl⟩);have J:=Mod.setCells (m:=I) (g:=mp) (i:=2) (.int .u32 (z:Int)) (t:=⟨rfl⟩);exact Mod.setCells (m:=J) (g:=mp) (i:=3) (.int .i64 (y:Int)) (t:=⟨rfl⟩)
theorem IY (m:Mod w w0 (gR be bm bn mp p jj nm j num many fs k en D1 e0 F)) :
 Calls Tryz.prog 105 #[ap mp,.string nm] w fun e y=>e=.returned (.tuple #[])/\Mod y w0 (gR be bm bn mp p jj nm j num many fs k en (lm D1 nm) e0 F):=by
 have e:∀(D1:aq),gR be bm bn mp p jj nm j num many fs k en D1 e0 F=bv p D1*(gA mp p j num many fs k*(dt jj p nm en*(aE be (.cells #[.int .i64 e0] 30 (0,0))*(aE bm (.cells #[ap mp] 61 (0,0))*(aE bn (.cells #[.string nm] 9 (0,0))*F))))):=fun D1=>by
  unfold gR mD;ac_rfl
 rw[e]at m;refine(yS mp p j num many fs k D1 nm w w0 _ m).mono fun I y ⟨z,E⟩=>⟨z,?_⟩;rw[e];exact E
theorem IZ (m:Mod w w0 (gR be bm bn mp p jj nm j num many fs k en D1 0 F))(u:FrameMode) :
 CallsD Tryz.prog 147 #[ap be,ap bm,ap bn] u w fun e y z=>y=u/\e=.returned (.tuple #[])/\Mod z w0 (gR be bm bn mp p jj nm j num many fs k en D1 0 F):=by
 rw[tt]at m ⊢;exact KV bm bn be p D1 w w0 _ m u
theorem I0 (m:Mod w w0 (gR be bm bn mp p jj nm j num many fs k en D1 e0 F))(y:e0≠0)(hn:eo nm=true)(u:FrameMode) :
 CallsD Tryz.prog 147 #[ap be,ap bm,ap bn] u w fun e z E=>z=u/\e=.returned (.tuple #[])/\Mod E w0 (gR be bm bn mp p jj nm j num many fs k en ⟨D1.size,cG (cG D1.now nm) fY,cG (cG D1.now nm) fY,D1.files⟩ 6 F):=by
 rw[tt]at m ⊢;exact KW bm bn be mp p j num many fs k D1 w w0 _ nm e0 m y hn u
theorem BP (m:Mod w w0 (gR be bm bn mp p jj nm j num many fs k en D1 e0 F)):Mod w w0 (bv p D1*(gA mp p j num many fs k*(dt jj p nm en*F))):=by
 have e:gR be bm bn mp p jj nm j num many fs k en D1 e0 F=(aE be (.cells #[.int .i64 e0] 30 (0,0))*(aE bm (.cells #[ap mp] 61 (0,0))*aE bn (.cells #[.string nm] 9 (0,0))))*(bv p D1*(gA mp p j num many fs k*(dt jj p nm en*F))):=by
  unfold gR mD;ac_rfl
 exact Mod.drop (m:=Mod.to (m:=m) e)
end
open Go.RowKit Go.Sl
section
variable {P:Program}{ops:Array Oper}{Q:Exit->Act->World->Prop}{md:Region.Mode}{S:World->Prop}{n:Nat}
theorem Ml {y:Array Bool}{i:Nat}(h:i∈Region.ready md ops y):i<ops.size:=by
 obtain⟨_,o,z,_⟩:=mem_ready.1 h;exact(ZX.1 z).1
theorem wpAnyS_first {i:Nat}{U:Oper}{v:Value}(hi:ops[i]?=some U)(au:ops.size<=n)(K:∀(j:Nat)(o:Oper) cs b,ops[j]?=some o->o.op ≠ .select cs b)
 (hQ:∀c a w,Q (.panic c) (a.put U.dst v) w->Q (.panic c) a w) :
 ∀(f:Nat)(y:Array Bool)(a:Act)(w:World),
  (∀j V,ops[j]?=some V->j≠i->y.getD j true=false->(∀e∈V.after,Region.binds md e=true->e.on≠i)->U.apart ops V=true) ->
  i∈Region.ready md ops y->YieldsIf P ops S U v a->S w ->
  jy P md ops Q S n f (y.setIfInBounds i true) (a.put U.dst v) w->jy P md ops Q S n (f+1) y a w:=by
 intro f
 induction f with
 | zero =>
   intro y a w _ O hy Y H;refine⟨fun h=>(by rw[h]at O;cases O),fun j hj=>?_⟩;by_cases z:j=i
   ·subst z;exact hy.wpOp hi Y ⟨.inr Y,H⟩
   ·have:=ready_mono hj z
    rw[H.1]at this;cases this
 | succ f ih =>
   intro y a w E O hy Y H;refine⟨fun h=>(by rw[h]at O;cases O),fun j hj=>?_⟩;by_cases z:j=i
   ·subst z;exact hy.wpOp hi Y ⟨.inr Y,H⟩
   ·have ai:j≠n:=fun e=>by have:=Ml hj;omega
    have h1:=H.2 j (ready_mono hj z);obtain⟨J,V,M,aa⟩:=mem_ready.1 hj
    have af:∀e∈V.after,Region.binds md e=true->e.on≠i:=fun e he hb ah=>by
     have h1:=aa e he hb;rw[ah,getD_both (mem_ready.1 O).1]at h1;cases h1
    have h2:=wpOp_putIf M (E j V M z J af) (fun cs b=>K i U cs b hi) (fun cs b=>K j V cs b M) hQ hy h1
    have I:∀k ok,ops[k]?=some ok->k≠i->(y.setIfInBounds j true).getD k true=false ->
     (∀e∈ok.after,Region.binds md e=true->e.on≠i)->U.apart ops ok=true:=fun k ok hk aj ag ak=>by
     refine E k ok hk aj ?_ ak;by_cases ae:j=k
     ·subst ae;exact J
     ·rw[getD_set_ne true ae]at ag;exact ag
    refine wpOp_mono (fun a' w' h3=>?_) h2;have Z:S w':=h3.2.1.resolve_left ai;refine⟨.inr Z,ih (y.setIfInBounds j true) a' w' I (ready_mono O (Ne.symm z)) h3.1 Z ?_⟩;rw[XW _ _ z];exact h3.2.2
theorem jw (i:Nat)(d:Option Tmp){E:Oper}{v:Value}{f:Nat}{y:Array Bool}{a:Act}{w:World}(I:ops[i]?=some E)(hd:E.dst=d)(z:decide (ops.size<=n)=true)
 (hs:Region.noSelect ops=true) (hf:Region.free md ops y i=true) (M:(Region.ready md ops y).contains i=true)
 (J:∀c a w,Q (.panic c) (a.put E.dst v) w->Q (.panic c) a w) (O:YieldsIf P ops S E v a) (K:S w)
 (h:jy P md ops Q S n f (y.setIfInBounds i true) (a.put d v) w):jy P md ops Q S n (f+1) y a w:=by
 subst hd;exact wpAnyS_first I (of_decide_eq_true z) (Region.noSelect_spec hs) J f y a w (Region.free_spec I hf) (by simpa using M) O K h
theorem Md (i:Nat)(d:Option Tmp){o:Oper}{f:Nat}{y:Array Bool}{a:Act}{w:World}(E:Region.ready md ops y=[i])(U:ops[i]?=some o)(hd:o.dst=d)(hg:o.guard=none)
 (h:∀z:Act->World->Prop,(∀v w,S w->jy P md ops Q S n f (y.setIfInBounds i true) (a.put d v) w->z (a.put d v) w)->Oper.wp P o a w z Q):jy P md ops Q S n (f+1) y a w:=by
 refine⟨fun J=>(by rw[J]at E;cases E),fun j I=>?_⟩;rw[E]at I;obtain rfl:=ZE.1 I;subst hd;refine wpOp_step U (fun z K=>?_);have:Region.wanted o (yielded ops a.tmps)=true:=by unfold Region.wanted;rw[hg]
 rw[if_pos this];exact h z (fun v w M O=>K _ w ⟨.inr M,O⟩)
end
open Go.RowKit Go.Sl
attribute [local go_sem] ab bj bh bd
theorem L5 (n:Nat):(⟨#[109,45]⟩:ByteArray)++⟨(Lib.decDigits n).toArray⟩=cD n:=by
 apply Xl;rw[ByteArray.data_append];simp[cD]
def NE (Q:Exit->Act->World->Prop):Exit->Act->World->Prop:=fun e a w=>match e with
 | .panic _=>False
 | e=>Q e a w
theorem Nx {P:Program}{c:Code}{Q:Exit->Act->World->Prop}{a:Act}{w:World}(h:c.wp P (NE Q) a w):c.wp P Q a w :=
 Code.wp_mono (Q:=NE Q) (fun e a w h=>by cases e <;> first | exact h | exact h.elim) h
def yB (mp p:Nat)(j:Value)(num many:Nat)(fs:Value)(k:Nat×Nat×Nat)(D:aq)(rs:List (List UInt8))(w0:World)(F:ba)(e:Ending)(z:World):Prop :=
 (e=.returned (.int .i64 0)/\(∀r∈rs,r.length<=65536)/\∃jj g1 g2,cw D.files g1=none/\cw ((g1,(⟨al [] rs,(al [] rs).length⟩:dr))::D.files) g2=none /\
    Mod z w0 (bv p (lm (gO D (cD (num+1)) (al [] rs) g1 g2 7) (cD (num+1)))*(gA mp p (ap jj) (num+1) rs.length fs k*(dt jj p (cD (num+1)) (al [] rs).length*F)))) \/
 (e=.returned (.int .i64 6)/\¬BI D (cD (num+1)) rs/\∃y,Over D y/\y.now=D.now/\y.sure=D.now/\Mod z w0 (bv p y*(gA mp p j num many fs k*F)))
theorem xK (mp p:Nat)(j:Value)(num many:Nat)(fs:Value)(k:Nat×Nat×Nat)(D:aq)(A:Option Addr)(n c:Nat)(rs:List (List UInt8))(w w0:World)(F:ba)
 (m:Mod w w0 (bv p D*(gA mp p j num many fs k*F))) (r:jt F A n rs) (tab:fX F) (aj:num+1<4294967296) (h1:br D.now (cD (num+1))=none) (h2:br D.now fY=none) (hroom:D.now.length<=61) (hn:n<=1000) :
 Calls Tryz.prog 104 #[ap mp,.slice A n c] w (yB mp p j num many fs k D rs w0 F):=by
 have hok:=p7 (F:=gA mp p j num many fs k*F) m ⟨rfl⟩;have bK:∀(fn:Fn)(first cap:Array Value)(w:World),(Instr.makeFunc fn first cap).run Tryz.prog w=.ok (.func fn first cap) w:=fun _ _ _ _=>rfl;have bL:IntKind.u32.wrap ((num:Int)+1)=(num:Int)+1:=by rw[IntKind.wrap_u32];omega
 have bM:IntKind.u64.wrap ((num:Int)+1)=(num:Int)+1:=by rw[IntKind.wrap_u64];omega
 have aS:¬9223372036854775807<2+(Lib.decDigits (num+1)).length:=by have:=l6 aj;omega
 have HF:=zbj (fun(u:World)(S:ba)(mu:Mod u w0 S)(t:fX S)=>(by
  have h:=rh (num+1) oMg u w0 S mu t;rw[show ((num+1:Nat):Int)=(num:Int)+1 by omega]at h
  exact h:Calls Tryz.prog 109 #[.int .u64 ((num:Int)+1),.int .i64 10] u fun e w'=>e=.returned (.string ⟨(Lib.decDigits (num+1)).toArray⟩)/\Mod w' w0 S))
 have R:=zbj r;have T:=zbj tab;have aR:=zbj hok;have sh:=Dd aj;have ae:(cD (num+1)).size<=1000:=by have:=l8 aj;omega
 have ag:=L5 (num+1);have aG:=oQ (num+1);have aY:=pi (num+1);unfold yB;clear r tab hok;obtain⟨nm,aJ⟩:∃nm,cD (num+1)=nm:=⟨_,rfl⟩;rw[aJ]at h1 sh ae ag aG aY ⊢;have bH:=zbj aJ;clear aJ;have H1:=zbj h1;have H2:=zbj h2;clear h1 h2;have m0:=m;unfold gA at m0;go_enter_defers Tryz.func104,Tryz.ntmps104
 refine Nx ?_;go_wp2_with (go_at_call 109;refine(HF.out _ _ zbk (T.out.lift zbk)).mono ?_;rintro e w1 ⟨rfl,m1⟩)
 have m2:Mod (w1.alloc (.cells #[.string ((⟨#[109,45]⟩:ByteArray)++⟨(Lib.decDigits (num+1)).toArray⟩)] 9)) w0 _:=zbk;rw[ag]at m2;generalize w1.alloc (.cells #[.string nm] 9)=w2 at *;generalize w1.heap.size=bn at *;generalize w.heap.size=bm at *;generalize bm+1=be at *;clear m1 m m0 HF ag aS;obtain⟨SS,ai,aO⟩:∃SS,SS=_/\Mod w2 w0 SS:=⟨_,rfl,m2⟩;have q1:jq SS bm (.cells #[ap mp] 61 (0,0)):=by rw[ai];infer_instance
 have q2:jq SS bn (.cells #[.string nm] 9 (0,0)):=by rw[ai];infer_instance
 have q3:jq SS mp (.cells #[ap p,j,.int .u32 (num:Int),.int .i64 (many:Int),fs,.slice none 0 0,.slice none 0 0,.int .u32 (k.1:Int),.int .u32 (k.2.1:Int),.int .u64 (k.2.2:Int),.bool true] 152 (0,0)):=by rw[ai];infer_instance
 have hY:SS=bv p D*mD be bm bn mp p nm j num many fs k 0 F:=by rw[ai];unfold mD gA;ac_rfl
 have HY:=zbj hY;clear ai hY;have:=jO.some aO;refine dv 5 aO kRf kRf ?_;simp only[List.take_succ_cons,List.take_zero,ZY,Z6]
 repeat (go_big_quiet_step (fail))
 refine wpQuiet_nil ?_;rintro w5 ⟨s,rfl⟩;have m5:=Mod.to (m:=s.mod) HY.out;clear aO q1 q2 q3 this m2 HY;generalize s.world=w5 at *;go_wp2_with fail
 refine(sY p D nm _ w0 _ _ m5 ⟨rfl⟩ (by have:=nJ sh;omega) sh H1.out).mono ?_;rintro e w6 ⟨rfl,m6⟩;clear m5;go_wp2_with fail
 have HO:=zbj (fun(u:World)(X:ba)(mu:Mod u w0 (bv p D*X))=>(by
  refine(xI p D nm u w0 X mu (by have:=nJ sh;omega) sh H1.out oMg).mono ?_;rintro e w' ⟨g,hg,jj,B,R,rfl,_,m7⟩
  exact⟨jj,g,B,rfl,hg,Mod.drop (A:=R) (m:=Mod.to (m:=m7) (by ac_rfl))⟩:Calls Tryz.prog 73 #[ap p,.string nm] u fun e w'=>∃(jj g:Nat)(B:Option Addr),e=.returned (.tuple #[ap jj,.slice B 0 0,.int .i64 0])/\cw D.files g=none/\Mod w' w0 (bv p (gO D nm [] g 0 0)*(dt jj p nm 0*X))))
 go_cut [6,7]from 12 (fun jv rv wx=>∃(jj g1:Nat)(B:Option Addr),jv=ap jj/\rv=.slice B 0 0/\cw D.files g1=none/\Mod wx w0 (gR be bm bn mp p jj nm j num many fs k 0 (gO D nm [] g1 0 0) 0 F))
 case first =>
  unfold mD gA at m6;go_region_with (go_at_call 73;refine(HO.out _ _ zbk).mono ?_;rintro e w7 ⟨jj,g1,B,rfl,hg1,m7⟩)
  all_goals (go_wp2_with fail)
  all_goals go_meet
  all_goals exact⟨jj,g1,B,rfl,rfl,hg1,jI be bm bn mp p jj nm j num many fs k w7 w0 F 0 0 0 _ (by unfold gR mD gA;exact m7)⟩
 case rest =>
  obtain⟨jj,g1,B0,rfl,rfl,hg1,m8⟩:=hcut;clear m6 HO;have aB:Hid (n=rs.length):=by show _=_;rw[R.out.1]
  go_wp2_with fail
  go_loopg [39] n (fun gk iv wr=>∃i:Nat,i<=n/\gk=n-i/\iv=.int .i64 (i:Int)/\∃(e0:Int)(en:Nat)(D1:aq),Hid (NB D nm rs g1 i e0 en D1)/\Mod wr w0 (gR be bm bn mp p jj nm j num many fs k en D1 e0 F))
  case atStart=>exact⟨0,Zv _,rfl,rfl,0,0,_,.inl ⟨rfl,rfl,rfl,by simp⟩,m8⟩
  case round =>
   obtain⟨i,hi,bI,rfl,e0,en,D1,HS,m9⟩:=hrel;have ay:=m9;unfold gR mD gA at ay;by_cases aI:i<n
   ·have bg:(i:Int)<(n:Int):=oMg
    obtain⟨b1,o1,rfl,bq,B,cB,aK,rB,aZ⟩:=Bz (Mod.sub F (m:=ay)) R.out aI;have hx:wr.cell? ⟨b1,o1+i,none⟩=some (.slice B rs[i].length cB):=aK ⟨wr,Mod.sub F (m:=ay)⟩;by_cases he:e0=0
    ·subst he
     have az:=zbj (No be bm bn mp p jj nm j num many fs k D rs g1 wr w0 F aR.out sh H1.out H2.out hg1 bq HS.out m9 B cB rB aZ);clear aK rB;go_wp2_with fail
     refine az.out.mono ?_;rintro e bD ⟨e1,I,D2,rfl,ah,aU⟩;have bC:=jI be bm bn mp p jj nm j num many fs k bD w0 F I 0 e1 D2 aU;have E:=zbj ah;clear ah az;have aV:=aU;unfold gR mD gA at aV;go_wp2_with fail
     go_roundg (n-(i+1))
     case measure=>omega
     case rel=>exact⟨i+1,aI,rfl,by go_num,e1,I,D2,E,bC⟩
    ·have b0:(e0==0)=false:=beq_eq_false_iff_ne.2 he
     clear aK rB;go_wp2_with fail
     go_roundg (n-(i+1))
     case measure=>omega
     case rel=>exact⟨i+1,aI,rfl,by go_num,e0,en,D1,HS.out.next he,m9⟩
   ·have bg:¬(i:Int)<(n:Int):=oMg
    have ah:Hid (BJ D nm rs g1 0 e0 en D1):=HS.out.last (by have:=aB.out;omega);clear HS;go_wp2_with fail
    refine eS 99 (fun u=>u.cell? ⟨bm,0,none⟩=some (ap mp)/\u.cell? ⟨mp,0,none⟩=some (ap p)) kRf (by refine⟨?_,?_⟩ <;> (rw[ab];rfl)) (fun y=>?_);simp only[Zl,List.length_cons,List.length_nil,Nat.reduceAdd];refine jw 18 (some 67) (v:=?_) rfl rfl kRf kRf kRf kRf (fun _ _ _ h=>h) (Or.inl ⟨by rfl,?_⟩) y ?_;rotate_left 1
    ·(intro u z;(try dsimp only at z);go_simp;try with_reducible rfl)
    simp only[Act.put,Zb,Zc,Zd];refine jw 0 (some 49) (v:=?_) rfl rfl kRf kRf kRf kRf (fun _ _ _ h=>h) (Or.inl ⟨by rfl,?_⟩) y ?_;rotate_left 1
    ·(intro u z;(try dsimp only at z);go_simp;try with_reducible rfl)
    simp only[Act.put,Zb,Zc,Zd];refine jw 1 (some 50) (v:=?_) rfl rfl kRf kRf kRf kRf (fun _ _ _ h=>h) (Or.inl ⟨by rfl,?_⟩) y ?_;rotate_left 1
    ·(intro u z;(try dsimp only at z);go_simp;try with_reducible rfl)
    simp only[Act.put,Zb,Zc,Zd];refine jw 2 (some 51) (v:=?_) rfl rfl kRf kRf kRf kRf (fun _ _ _ h=>h) (Or.inl ⟨by rfl,?_⟩) y ?_;rotate_left 1
    ·(intro u z;(try dsimp only at z);go_simp;try with_reducible rfl)
    simp only[Act.put,Zb,Zc,Zd];refine jw 3 (some 52) (v:=?_) rfl rfl kRf kRf kRf kRf (fun _ _ _ h=>h) (Or.inl ⟨by rfl,?_⟩) y ?_;rotate_left 1
    ·(intro u z;(try dsimp only at z);go_simp;try with_reducible rfl)
    simp only[Act.put,Zb,Zc,Zd];refine jw 4 (some 53) (v:=?_) rfl rfl kRf kRf kRf kRf (fun _ _ _ h=>h) (Or.inl ⟨by rfl,?_⟩) y ?_;rotate_left 1
    ·(intro u z;(try dsimp only at z);go_simp;try with_reducible rfl)
    simp only[Act.put,Zb,Zc,Zd];refine jw 5 (some 54) (v:=?_) rfl rfl kRf kRf kRf kRf (fun _ _ _ h=>h) (Or.inl ⟨by rfl,?_⟩) y ?_;rotate_left 1
    ·(intro u z;(try dsimp only at z);go_simp;try with_reducible rfl)
    simp only[Act.put,Zb,Zc,Zd];refine jw 6 (some 55) (v:=?_) rfl rfl kRf kRf kRf kRf (fun _ _ _ h=>h) (Or.inl ⟨by rfl,?_⟩) y ?_;rotate_left 1
    ·(intro u z;(try dsimp only at z);go_simp;try with_reducible rfl)
    simp only[Act.put,Zb,Zc,Zd];refine jw 7 (some 56) (v:=?_) rfl rfl kRf kRf kRf kRf (fun _ _ _ h=>h) (Or.inl ⟨by rfl,?_⟩) y ?_;rotate_left 1
    ·(intro u z;(try dsimp only at z);go_simp;try with_reducible rfl)
    simp only[Act.put,Zb,Zc,Zd];refine jw 8 (some 57) (v:=?_) rfl rfl kRf kRf kRf kRf (fun _ _ _ h=>h) (Or.inl ⟨by rfl,?_⟩) y ?_;rotate_left 1
    ·(intro u z;(try dsimp only at z);go_simp;try with_reducible rfl)
    simp only[Act.put,Zb,Zc,Zd];refine jw 9 (some 58) (v:=?_) rfl rfl kRf kRf kRf kRf (fun _ _ _ h=>h) (Or.inl ⟨by rfl,?_⟩) y ?_;rotate_left 1
    ·(intro u z;(try dsimp only at z);go_simp;try with_reducible rfl)
    simp only[Act.put,Zb,Zc,Zd];refine jw 10 (some 59) (v:=?_) rfl rfl kRf kRf kRf kRf (fun _ _ _ h=>h) (Or.inl ⟨by rfl,?_⟩) y ?_;rotate_left 1
    ·(intro u z;(try dsimp only at z);go_simp;try with_reducible rfl)
    simp only[Act.put,Zb,Zc,Zd];refine jw 11 (some 60) (v:=?_) rfl rfl kRf kRf kRf kRf (fun _ _ _ h=>h) (Or.inl ⟨by rfl,?_⟩) y ?_;rotate_left 1
    ·(intro u z;(try dsimp only at z);go_simp;try with_reducible rfl)
    simp only[Act.put,Zb,Zc,Zd];refine jw 12 (some 61) (v:=?_) rfl rfl kRf kRf kRf kRf (fun _ _ _ h=>h) (Or.inl ⟨by rfl,?_⟩) y ?_;rotate_left 1
    ·(intro u z;(try dsimp only at z);go_simp;try with_reducible rfl)
    simp only[Act.put,Zb,Zc,Zd];refine jw 13 (some 62) (v:=?_) rfl rfl kRf kRf kRf kRf (fun _ _ _ h=>h) (Or.inl ⟨by rfl,?_⟩) y ?_;rotate_left 1
    ·(intro u z;(try dsimp only at z);go_simp;try with_reducible rfl)
    simp only[Act.put,Zb,Zc,Zd];refine jw 14 (some 63) (v:=?_) rfl rfl kRf kRf kRf kRf (fun _ _ _ h=>h) (Or.inl ⟨by rfl,?_⟩) y ?_;rotate_left 1
    ·(intro u z;(try dsimp only at z);go_simp;try with_reducible rfl)
    simp only[Act.put,Zb,Zc,Zd];refine jw 15 (some 64) (v:=?_) rfl rfl kRf kRf kRf kRf (fun _ _ _ h=>h) (Or.inl ⟨by rfl,?_⟩) y ?_;rotate_left 1
    ·(intro u z;(try dsimp only at z);go_simp;try with_reducible rfl)
    simp only[Act.put,Zb,Zc,Zd];refine Md 16 (some 65) kRf rfl rfl rfl (fun K' hK=>?_);go_simp
    have mB:=zbj (Mod.drew (m:=Mod.alloc (m:=m9) (.cells #[.func (.func 43) #[ap jj] #[],.func (.func 148) #[] #[ap bm],.func (.func 149) #[] #[ap bm,ap bn],.func (.func 150) #[] #[ap bm],.func (.func 74) #[ap p] #[],.func (.func 151) #[] #[ap bm],.func (.func 74) #[ap p] #[]] 36)));refine hK _ _ (by refine⟨?_,?_⟩ <;> (rw[ab];rfl)) ?_;clear hK;clear K';simp only[Act.put,Zb,Zc,Zd];have y:(fun u:World=>u.cell? ⟨bm,0,none⟩=some (ap mp)/\u.cell? ⟨mp,0,none⟩=some (ap p)) ((wr.alloc (.cells #[.func (.func 43) #[ap jj] #[],.func (.func 148) #[] #[ap bm],.func (.func 149) #[] #[ap bm,ap bn],.func (.func 150) #[] #[ap bm],.func (.func 74) #[ap p] #[],.func (.func 151) #[] #[ap bm],.func (.func 74) #[ap p] #[]] 36)).drew):=by refine⟨?_,?_⟩ <;> (rw[ab];rfl)
    refine jw 17 (some 66) (v:=?_) rfl rfl kRf kRf kRf kRf (fun _ _ _ h=>h) (Or.inl ⟨by rfl,?_⟩) y ?_;rotate_left 1
    ·(intro u z;(try dsimp only at z);go_simp;try with_reducible rfl)
    simp only[Act.put,Zb,Zc,Zd];refine fd kRf ?_;obtain⟨V,af⟩:∃V,V=aE wr.heap.size (.cells #[.func (.func 43) #[ap jj] #[],.func (.func 148) #[] #[ap bm],.func (.func 149) #[] #[ap bm,ap bn],.func (.func 150) #[] #[ap bm],.func (.func 74) #[ap p] #[],.func (.func 151) #[] #[ap bm],.func (.func 74) #[ap p] #[]] 36 (0,0))*F:=⟨_,rfl⟩;have aW:Mod ((wr.alloc (.cells #[.func (.func 43) #[ap jj] #[],.func (.func 148) #[] #[ap bm],.func (.func 149) #[] #[ap bm,ap bn],.func (.func 150) #[] #[ap bm],.func (.func 74) #[ap p] #[],.func (.func 151) #[] #[ap bm],.func (.func 74) #[ap p] #[]] 36)).drew) w0 (gR be bm bn mp p jj nm j num many fs k en D1 e0 V):=Mod.to (m:=mB.out) (by rw[af];unfold gR mD;ac_rfl);have hC:jq V wr.heap.size (.cells #[.func (.func 43) #[ap jj] #[],.func (.func 148) #[] #[ap bm],.func (.func 149) #[] #[ap bm,ap bn],.func (.func 150) #[] #[ap bm],.func (.func 74) #[ap p] #[],.func (.func 151) #[] #[ap bm],.func (.func 74) #[ap p] #[]] 36 (0,0)):=by rw[af];infer_instance
    have bN:Sub V F:=by rw[af];infer_instance
    have af:=zbj af;clear y mB ay m9;generalize (wr.alloc (.cells #[.func (.func 43) #[ap jj] #[],.func (.func 148) #[] #[ap bm],.func (.func 149) #[] #[ap bm,ap bn],.func (.func 150) #[] #[ap bm],.func (.func 74) #[ap p] #[],.func (.func 151) #[] #[ap bm],.func (.func 74) #[ap p] #[]] 36)).drew=bO at *;generalize wr.heap.size=bs at *;go_wp2_with fail
    go_loopg [67] 7 (fun gk iv w3=>∃i:Nat,i<=7/\gk=7-i/\iv=.int .i64 (i:Int)/\∃(e0:Int)(en:Nat)(D1:aq),Hid (BJ D nm rs g1 i e0 en D1)/\Mod w3 w0 (gR be bm bn mp p jj nm j num many fs k en D1 e0 V))
    case atStart=>exact⟨0,oMg,rfl,rfl,e0,en,D1,ah,aW⟩
    case round =>
     clear aW ah;obtain⟨i,bJ,bF,rfl,e0,en,D1,E,U⟩:=hrel
     rename World=>w3
     have ak:=U;unfold gR mD gA at ak;by_cases bG:i<7
     ·by_cases he:e0=0
      ·subst he
       obtain rfl | rfl | rfl | rfl | rfl | rfl | rfl:i=0\/i=1\/i=2\/i=3\/i=4\/i=5\/i=6:=oMg
       ·have K:=zbj (OP be bm bn mp p jj nm j num many fs k D rs g1 w3 w0 V sh E.out U)
        clear E;go_wp2_with fail
        refine K.out.mono ?_;rintro e aa ⟨e1,I,D2,rfl,J,M⟩;have Z:=jI be bm bn mp p jj nm j num many fs k aa w0 V I 0 e1 D2 M;have Y:=zbj J;clear J K;have O:=M;unfold gR mD gA at O;go_wp2_with fail
        go_roundg (7-(0+1))
        case measure=>omega
        case rel=>exact⟨0+1,oMg,rfl,by go_num,e1,I,D2,Y,Z⟩
       ·have K:=zbj (OQ be bm bn mp p jj nm j num many fs k D rs g1 w3 w0 V H2.out (Ne.symm aG) hroom E.out U)
        clear E;go_wp2_with fail
        refine K.out.mono ?_;rintro e aa ⟨e1,I,D2,rfl,J,M⟩;have Z:=jI be bm bn mp p jj nm j num many fs k aa w0 V I 0 e1 D2 M;have Y:=zbj J;clear J K;have O:=M;unfold gR mD gA at O;go_wp2_with fail
        go_roundg (7-(1+1))
        case measure=>omega
        case rel=>exact⟨1+1,oMg,rfl,by go_num,e1,I,D2,Y,Z⟩
       ·have K:=zbj (OR be bm bn mp p jj nm j num many fs k D rs g1 w3 w0 V aR.out H1.out H2.out (Ne.symm aG) hg1 E.out U ae)
        clear E;go_wp2_with fail
        refine K.out.mono ?_;rintro e aa ⟨e1,I,D2,rfl,J,M⟩;have Z:=jI be bm bn mp p jj nm j num many fs k aa w0 V I 0 e1 D2 M;have Y:=zbj J;clear J K;have O:=M;unfold gR mD gA at O;go_wp2_with fail
        go_roundg (7-(2+1))
        case measure=>omega
        case rel=>exact⟨2+1,oMg,rfl,by go_num,e1,I,D2,Y,Z⟩
       ·have K:=zbj (OS be bm bn mp p jj nm j num many fs k D rs g1 w3 w0 V E.out U)
        clear E;go_wp2_with fail
        refine K.out.mono ?_;rintro e aa ⟨e1,I,D2,rfl,J,M⟩;have Z:=jI be bm bn mp p jj nm j num many fs k aa w0 V I 0 e1 D2 M;have Y:=zbj J;clear J K;have O:=M;unfold gR mD gA at O;go_wp2_with fail
        go_roundg (7-(3+1))
        case measure=>omega
        case rel=>exact⟨3+1,oMg,rfl,by go_num,e1,I,D2,Y,Z⟩
       ·have K:=zbj (OT be bm bn mp p jj nm j num many fs k D rs g1 w3 w0 V E.out U)
        clear E;go_wp2_with fail
        refine K.out.mono ?_;rintro e aa ⟨e1,I,D2,rfl,J,M⟩;have Z:=jI be bm bn mp p jj nm j num many fs k aa w0 V I 0 e1 D2 M;have Y:=zbj J;clear J K;have O:=M;unfold gR mD gA at O;go_wp2_with fail
        go_roundg (7-(4+1))
        case measure=>omega
        case rel=>exact⟨4+1,oMg,rfl,by go_num,e1,I,D2,Y,Z⟩
       ·have K:=zbj (OU be bm bn mp p jj nm j num many fs k D rs g1 w3 w0 V E.out U)
        clear E;go_wp2_with fail
        refine K.out.mono ?_;rintro e aa ⟨e1,I,D2,rfl,J,M⟩;have Z:=jI be bm bn mp p jj nm j num many fs k aa w0 V I 0 e1 D2 M;have Y:=zbj J;clear J K;have O:=M;unfold gR mD gA at O;go_wp2_with fail
        go_roundg (7-(5+1))
        case measure=>omega
        case rel=>exact⟨5+1,oMg,rfl,by go_num,e1,I,D2,Y,Z⟩
       ·have K:=zbj (OV be bm bn mp p jj nm j num many fs k D rs g1 w3 w0 V E.out U)
        clear E;go_wp2_with fail
        refine K.out.mono ?_;rintro e aa ⟨e1,I,D2,rfl,J,M⟩;have Z:=jI be bm bn mp p jj nm j num many fs k aa w0 V I 0 e1 D2 M;have Y:=zbj J;clear J K;have O:=M;unfold gR mD gA at O;go_wp2_with fail
        go_roundg (7-(6+1))
        case measure=>omega
        case rel=>exact⟨6+1,oMg,rfl,by go_num,e1,I,D2,Y,Z⟩
      ·have b0:(e0==0)=false:=beq_eq_false_iff_ne.2 he
       obtain rfl | rfl | rfl | rfl | rfl | rfl | rfl:i=0\/i=1\/i=2\/i=3\/i=4\/i=5\/i=6:=oMg
       ·go_wp2_with fail
        go_roundg (7-(0+1))
        case measure=>omega
        case rel=>exact⟨0+1,oMg,rfl,by go_num,e0,en,D1,E.out.next he,U⟩
       ·go_wp2_with fail
        go_roundg (7-(1+1))
        case measure=>omega
        case rel=>exact⟨1+1,oMg,rfl,by go_num,e0,en,D1,E.out.next he,U⟩
       ·go_wp2_with fail
        go_roundg (7-(2+1))
        case measure=>omega
        case rel=>exact⟨2+1,oMg,rfl,by go_num,e0,en,D1,E.out.next he,U⟩
       ·go_wp2_with fail
        go_roundg (7-(3+1))
        case measure=>omega
        case rel=>exact⟨3+1,oMg,rfl,by go_num,e0,en,D1,E.out.next he,U⟩
       ·go_wp2_with fail
        go_roundg (7-(4+1))
        case measure=>omega
        case rel=>exact⟨4+1,oMg,rfl,by go_num,e0,en,D1,E.out.next he,U⟩
       ·go_wp2_with fail
        go_roundg (7-(5+1))
        case measure=>omega
        case rel=>exact⟨5+1,oMg,rfl,by go_num,e0,en,D1,E.out.next he,U⟩
       ·go_wp2_with fail
        go_roundg (7-(6+1))
        case measure=>omega
        case rel=>exact⟨6+1,oMg,rfl,by go_num,e0,en,D1,E.out.next he,U⟩
     ·have aT:i=7:=oMg
      subst aT;by_cases he:e0=0
      ·subst he
       go_wp2_with fail
       refine eS 99 (fun u:World=>u.cell? ⟨bm,0,none⟩=some (ap mp)) kRf Za (fun y=>?_);simp only[Zl,List.length_cons,List.length_nil,Nat.reduceAdd];refine jw 3 (some 81) (v:=?_) rfl rfl kRf kRf kRf kRf (fun _ _ _ h=>h) (Or.inl ⟨by rfl,?_⟩) y ?_;rotate_left 1
       ·(intro u z;(try dsimp only at z);go_simp;try with_reducible rfl)
       simp only[Act.put,Zb,Zc,Zd];refine jw 0 (some 78) (v:=?_) rfl rfl kRf kRf kRf kRf (fun _ _ _ h=>h) (Or.inl ⟨by rfl,?_⟩) y ?_;rotate_left 1
       ·(intro u z;(try dsimp only at z);go_simp;try with_reducible rfl)
       simp only[Act.put,Zb,Zc,Zd];refine jw 1 (some 79) (v:=?_) rfl rfl kRf kRf kRf kRf (fun _ _ _ h=>h) (Or.inl ⟨by rfl,?_⟩) y ?_;rotate_left 1
       ·(intro u z;(try dsimp only at z);go_simp;try with_reducible rfl)
       simp only[Act.put,Zb,Zc,Zd];refine jw 2 (some 80) (v:=?_) rfl rfl kRf kRf kRf kRf (fun _ _ _ h=>h) (Or.inl ⟨by rfl,?_⟩) y ?_;rotate_left 1
       ·(intro u z;(try dsimp only at z);go_simp;try with_reducible rfl)
       simp only[Act.put,Zb,Zc,Zd];refine jw 4 (some 82) (v:=?_) rfl rfl kRf kRf kRf kRf (fun _ _ _ h=>h) (Or.inl ⟨by rfl,?_⟩) y ?_;rotate_left 1
       ·(intro u z;(try dsimp only at z);go_simp;try with_reducible rfl)
       simp only[Act.put,Zb,Zc,Zd];refine jw 5 (some 83) (v:=?_) rfl rfl kRf kRf kRf kRf (fun _ _ _ h=>h) (Or.inl ⟨by rfl,?_⟩) y ?_;rotate_left 1
       ·(intro u z;(try dsimp only at z);go_simp;try with_reducible rfl)
       simp only[Act.put,Zb,Zc,Zd];refine jw 6 (some 84) (v:=?_) rfl rfl kRf kRf kRf kRf (fun _ _ _ h=>h) (Or.inl ⟨by rfl,?_⟩) y ?_;rotate_left 1
       ·(intro u z;(try dsimp only at z);go_simp;try with_reducible rfl)
       simp only[Act.put,Zb,Zc,Zd];refine jw 9 (some 87) (v:=?_) rfl rfl kRf kRf kRf kRf (fun _ _ _ h=>h) (Or.inl ⟨by rfl,?_⟩) y ?_;rotate_left 1
       ·(intro u z;(try dsimp only at z);go_simp;try with_reducible rfl)
       simp only[Act.put,Zb,Zc,Zd];refine jw 10 (some 88) (v:=?_) rfl rfl kRf kRf kRf kRf (fun _ _ _ h=>h) (Or.inl ⟨by rfl,?_⟩) y ?_;rotate_left 1
       ·(intro u z;(try dsimp only at z);go_simp;try with_reducible rfl)
       simp only[Act.put,Zb,Zc,Zd];refine Md 7 (some 85) kRf rfl rfl rfl (fun K' hK=>?_);go_simp
       refine hK _ _ Za ?_;clear hK;clear K';simp only[Act.put,Zb,Zc,Zd];refine jw 8 (some 86) (v:=?_) rfl rfl kRf kRf kRf kRf (fun _ _ _ h=>h) (Or.inl ⟨by rfl,?_⟩) y ?_;rotate_left 1
       ·(intro u z;(try dsimp only at z);go_simp;try with_reducible rfl)
       simp only[Act.put,Zb,Zc,Zd];refine jw 11 (some 89) (v:=?_) rfl rfl kRf kRf kRf kRf (fun _ _ _ h=>h) (Or.inl ⟨by rfl,?_⟩) y ?_;rotate_left 1
       ·(intro u z;(try dsimp only at z);go_simp;try with_reducible rfl)
       simp only[Act.put,Zb,Zc,Zd];refine jw 12 (some 90) (v:=?_) rfl rfl kRf kRf kRf kRf (fun _ _ _ h=>h) (Or.inl ⟨by rfl,?_⟩) y ?_;rotate_left 1
       ·(intro u z;(try dsimp only at z);go_simp;try with_reducible rfl)
       simp only[Act.put,Zb,Zc,Zd];refine Md 13 none kRf rfl rfl rfl (fun K' hK=>?_);go_simp
       refine hK undef _ Za ?_;clear hK;clear K';clear y;simp only[Act.put];have y:(fun u:World=>u.cell? ⟨bm,0,none⟩=some (ap mp)) (w3.drew.setCell ⟨mp,1,none⟩ (ap jj)):=by show World.cell? _ _=_;rw[ab];rfl
       refine jw 14 (some 91) (v:=?_) rfl rfl kRf kRf kRf kRf (fun _ _ _ h=>h) (Or.inl ⟨by rfl,?_⟩) y ?_;rotate_left 1
       ·(intro u z;(try dsimp only at z);go_simp;try with_reducible rfl)
       simp only[Act.put,Zb,Zc,Zd];refine jw 15 (some 92) (v:=?_) rfl rfl kRf kRf kRf kRf (fun _ _ _ h=>h) (Or.inl ⟨by rfl,?_⟩) y ?_;rotate_left 1
       ·(intro u z;(try dsimp only at z);go_simp;try with_reducible rfl)
       simp only[Act.put,Zb,Zc,Zd];refine Md 16 none kRf rfl rfl rfl (fun K' hK=>?_);go_simp
       refine hK undef _ Za ?_;clear hK;clear K';clear y;simp only[Act.put];have y:(fun u:World=>u.cell? ⟨bm,0,none⟩=some (ap mp)) ((w3.drew.setCell ⟨mp,1,none⟩ (ap jj)).setCell ⟨mp,2,none⟩ (.int .u32 ((num:Int)+1))):=by show World.cell? _ _=_;rw[ab];rfl
       refine jw 17 (some 93) (v:=?_) rfl rfl kRf kRf kRf kRf (fun _ _ _ h=>h) (Or.inl ⟨by rfl,?_⟩) y ?_;rotate_left 1
       ·(intro u z;(try dsimp only at z);go_simp;try with_reducible rfl)
       simp only[Act.put,Zb,Zc,Zd];refine jw 18 (some 94) (v:=?_) rfl rfl kRf kRf kRf kRf (fun _ _ _ h=>h) (Or.inl ⟨by rfl,?_⟩) y ?_;rotate_left 1
       ·(intro u z;(try dsimp only at z);go_simp;try with_reducible rfl)
       simp only[Act.put,Zb,Zc,Zd];refine Md 19 none kRf rfl rfl rfl (fun K' hK=>?_);go_simp
       refine hK undef _ Za ?_;clear hK;clear K';clear y;simp only[Act.put];refine fd kRf ?_;have aL:Mod ((((w3.setCell ⟨mp,1,none⟩ (ap jj)).setCell ⟨mp,2,none⟩ (.int .u32 ((num:Int)+1))).setCell ⟨mp,3,none⟩ (.int .i64 (n:Int))).drew) w0 (gR be bm bn mp p jj nm (ap jj) (num+1) n fs k en D1 0 V):=Mod.drew (m:=IX be bm bn mp p jj nm j num many fs k en D1 0 w3 w0 V (ap jj) (num+1) n U);clear U ak;generalize (((w3.setCell ⟨mp,1,none⟩ (ap jj)).setCell ⟨mp,2,none⟩ (.int .u32 ((num:Int)+1))).setCell ⟨mp,3,none⟩ (.int .i64 (n:Int))).drew=bE at *;have aQ:=zbj (IY be bm bn mp p jj nm (ap jj) (num+1) n fs k en D1 0 bE w0 V aL);have aD:=aL;unfold gR mD gA at aD;go_wp2_with fail
       refine aQ.out.mono ?_;rintro e aX ⟨rfl,aM⟩;clear aQ aL aD;have aN:=jI be bm bn mp p jj nm (ap jj) (num+1) n fs k aX w0 V en 0 0 (lm D1 nm) aM;have aF:=aM;unfold gR mD gA at aF;go_wp2_with fail
       clear aM aF;generalize aX.setCell ⟨be,0,none⟩ (.int .i64 0)=aP at *
       change Leaves _ _ _ _ _ _ _
       refine leaves_cons (f:=147) (args:=#[ap be,ap bm,ap bn]) (by simp) (by simp[go_sem]) ?_;refine(IZ be bm bn mp p jj nm (ap jj) (num+1) n fs k en (lm D1 nm) aP w0 V aN .returning).mono ?_;rintro e u' ax ⟨rfl,rfl,au⟩;have av:=au;unfold gR mD gA at av;have aH:ax.cell? ⟨be,0,none⟩=some (.int .i64 0):=Za;refine⟨.int .i64 0,by simp[results,Tryz.results104,go_sem,aH],?_⟩;rcases E.out with⟨_,rfl,g2,bf,rfl,bB⟩ | h
       ·refine .inl ⟨rfl,bB,jj,g1,g2,hg1,bf oMg,?_⟩
        have bz:n=rs.length:=aB.out;rw[<-bz];exact Mod.to (m:=Mod.drop (A:=aE bs (.cells #[.func (.func 43) #[ap jj] #[],.func (.func 148) #[] #[ap bm],.func (.func 149) #[] #[ap bm,ap bn],.func (.func 150) #[] #[ap bm],.func (.func 74) #[ap p] #[],.func (.func 151) #[] #[ap bm],.func (.func 74) #[ap p] #[]] 36 (0,0))) (m:=Mod.to (m:=BP be bm bn mp p jj nm (ap jj) (num+1) n fs k (al [] rs).length _ 0 ax w0 V au) (by rw[af.out];ac_rfl))) rfl
       ·exact absurd rfl h.1
      ·have b0:(e0==0)=false:=beq_eq_false_iff_ne.2 he
       have aN:=jI be bm bn mp p jj nm j num many fs k w3 w0 V en e0 e0 D1 U;go_wp2_with fail
       clear U ak;generalize w3.setCell ⟨be,0,none⟩ (.int .i64 e0)=aP at *
       change Leaves _ _ _ _ _ _ _
       refine leaves_cons (f:=147) (args:=#[ap be,ap bm,ap bn]) (by simp) (by simp[go_sem]) ?_;refine(I0 be bm bn mp p jj nm j num many fs k en D1 e0 aP w0 V aN he sh .returning).mono ?_;rintro e u' ax ⟨rfl,rfl,au⟩;have av:=au;unfold gR mD gA at av;have aH:ax.cell? ⟨be,0,none⟩=some (.int .i64 6):=Za;refine⟨.int .i64 6,by simp[results,Tryz.results104,go_sem,aH],?_⟩;rcases E.out with h | ⟨_,hb,bu⟩
       ·exact absurd h.1 he
       ·refine .inr ⟨rfl,bu,⟨D1.size,cG (cG D1.now nm) fY,cG (cG D1.now nm) fY,D1.files⟩,⟨hb.over.size,hb.over.files⟩,hb.now,hb.now,?_⟩
        exact Mod.drop (A:=dt jj p nm en*aE bs (.cells #[.func (.func 43) #[ap jj] #[],.func (.func 148) #[] #[ap bm],.func (.func 149) #[] #[ap bm,ap bn],.func (.func 150) #[] #[ap bm],.func (.func 74) #[ap p] #[],.func (.func 151) #[] #[ap bm],.func (.func 74) #[ap p] #[]] 36 (0,0))) (m:=Mod.to (m:=BP be bm bn mp p jj nm j num many fs k en _ 6 ax w0 V au) (by rw[af.out];ac_rfl))
end Go.Proofs.YtdfppjcaelghhaaGreatDoor
