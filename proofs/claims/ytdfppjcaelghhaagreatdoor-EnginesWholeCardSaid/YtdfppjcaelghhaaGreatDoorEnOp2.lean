/- Plain lemmas and contracts; the conditions are in each. -/
import Derived.Test.YtdfppjcaelghhaaGreatDoorEnRp
import Derived.Test.YtdfppjcaelghhaaGreatDoorEnO
set_option maxHeartbeats 16000000
set_option maxRecDepth 8000
namespace Go.Proofs.YtdfppjcaelghhaaGreatDoor
open Go.RowKit Go.Sl Go.Shelf
attribute [local go_sem] ab bj bh bd
def iT (s:ByteArray):Bool:=Lib.hasPrefix s.data.toList (⟨#[109]⟩:ByteArray).data.toList||(Lib.hasPrefix s.data.toList (⟨#[101,45]⟩:ByteArray).data.toList||Lib.hasPrefix s.data.toList (⟨#[106,45]⟩:ByteArray).data.toList)
theorem PB (s:ByteArray)(I:iT s=true)(w w0:World)(S:ba)(m:Mod w w0 S):Calls Tryz.prog 48 #[.string s] w fun e Y=>e=.returned (.bool true)/\Mod Y w0 S:=by
 have y:=zbj (fun(u:World)(E:Mod u w0 S)=>mN s ⟨#[109]⟩ u w0 S E);have z:=zbj (fun(u:World)(E:Mod u w0 S)=>mN s ⟨#[101,45]⟩ u w0 S E);have J:=zbj (fun(u:World)(E:Mod u w0 S)=>mN s ⟨#[106,45]⟩ u w0 S E);unfold iT at I;generalize Lib.hasPrefix s.data.toList (⟨#[109]⟩:ByteArray).data.toList=M at *;generalize Lib.hasPrefix s.data.toList (⟨#[101,45]⟩:ByteArray).data.toList=O at *;generalize Lib.hasPrefix s.data.toList (⟨#[106,45]⟩:ByteArray).data.toList=U at *
 cases M with
 | true =>
   clear I;go_enter Tryz.func48,Tryz.ntmps48
   go_wp2_with (go_at_call 49;refine(y.out _ m).mono ?_;rintro e w1 ⟨rfl,B⟩)
   go_ret
   exact⟨rfl,B⟩
 | false =>
   cases O with
   | true =>
     clear I;go_enter Tryz.func48,Tryz.ntmps48
     go_wp2_with (go_at_call 49;refine(y.out _ m).mono ?_;rintro e w1 ⟨rfl,B⟩;refine Hid.out ?_)
     refine zbj ?_;go_wp2_with (go_at_call 49;refine(z.out _ B).mono ?_;rintro e Z ⟨rfl,K⟩)
     go_ret
     exact⟨rfl,K⟩
   | false =>
     obtain rfl:U=true:=I;go_enter Tryz.func48,Tryz.ntmps48
     go_wp2_with (go_at_call 49;refine(y.out _ m).mono ?_;rintro e w1 ⟨rfl,B⟩;refine Hid.out ?_)
     refine zbj ?_;go_wp2_with (go_at_call 49;refine(z.out _ B).mono ?_;rintro e Z ⟨rfl,K⟩;refine Hid.out ?_)
     refine zbj ?_;go_wp2_with (go_at_call 49;refine(J.out _ K).mono ?_;rintro e w3 ⟨rfl,V⟩)
     go_ret
     exact⟨rfl,V⟩
theorem PQ (s:ByteArray)(z:iT s=true)(y:Nat)(w w0:World)(S:ba)(m:Mod w w0 S)(h:jq S y (.cells #[.func (.func 48) #[] #[]] 102 (0,0))):Calls Tryz.prog 52 #[.string s,ap y] w fun e J=>e=.returned (.bool false)/\Mod J w0 S:=by
 have B:=zbj (fun(u:World)(I:Mod u w0 S)=>PB s z u w0 S I);clear z;go_enter Tryz.func52,Tryz.ntmps52
 go_wp2_with (go_at_call 48;refine(B.out _ m).mono ?_;rintro e w1 ⟨rfl,E⟩)
 go_ret
 exact⟨rfl,E⟩
theorem wb (E:Nat)(lb:Array Value)(B:Option Addr)(n c:Nat)(l:List ByteArray)(w w0:World)(S:ba)(m:Mod w w0 S)(r:bk S B n (pT l))(V:l.length=n)(hn:n<=1000000000)(ef:∀args w,(callFunc E args).run Tryz.prog w=.ok (.enter E args) w)
 (K:∀s∈l,∀(u:World),Mod u w0 S->Calls Tryz.prog E (#[.string s]++lb) u fun e J=>e=.returned (.bool false)/\Mod J w0 S) :
 Calls Tryz.prog 51 #[.slice B n c,.func (.func E) #[] lb] w fun e J=>e=.returned (.bool false)/\Mod J w0 S:=by
 have R:=zbj r;have Hl:=zbj V;have M:=zbj K
 have Z:Hid (∀(u:World),Mod u w0 S->Calls Tryz.prog 100 #[.slice B n c,.func (.func E) #[] lb] u fun e J=>e=.returned (.int .i64 (-1))/\Mod J w0 S):=fun u mu=>by
  clear m r K V;go_enter Tryz.func100,Tryz.ntmps100
  go_wp2_with fail
  go_loopg [8] n (fun gk v8 wr=>∃i:Nat,i<=n/\gk=n-i/\v8=.int .i64 (i:Int)/\Mod wr w0 S)
  case atStart=>exact⟨0,Zv _,rfl,rfl,mu⟩
  case round =>
   obtain⟨i,hi,aa,rfl,Y⟩:=hrel;by_cases I:i<n
   ·have U:(i:Int)<(n:Int):=oMg
    have z:i<l.length:=by rw[Hl.out];exact I
    obtain⟨b,o,rfl,y⟩:=px Y R.out oMg;have hc:=y i z;have O:=zbj (M.out l[i] (Zq z));clear y;generalize l[i]=s at *;clear z;go_wp2_with (refine(O.out _ Y).mono ?_;rintro e w1 ⟨rfl,m3⟩)
    go_roundg (n-(i+1))
    case measure=>omega
    case rel=>exact⟨i+1,I,rfl,by go_num,m3⟩
   ·have U:¬(i:Int)<(n:Int):=oMg
    go_wp2_with fail
    go_ret
    exact⟨rfl,Y⟩
 clear ef K r V;go_enter Tryz.func51,Tryz.ntmps51
 go_wp2_with (go_at_call 100;refine(Z.out _ m).mono ?_;rintro e w1 ⟨rfl,m1⟩)
 go_ret
 exact⟨rfl,m1⟩
theorem PC (b8 U e p E z t V:Nat)(x2 x5:Value)(A:Option Addr)(c:Nat)(v:eN)(ws:List (List ao))(B N:Nat)(h:EnCore {v with T:=jd [] ws.flatten,seq:=v.seq+ws.length} B N 4)(M:yD {v with T:=jd [] ws.flatten,seq:=v.seq+ws.length} N)(au:v.D.size=8388608->gF\/v.k.files=[])
 (g:Nat) (f:dr) (ax:0<v.k.al) (hj:v.k.al<4294967296) (hg:br v.D.now (ez v.k.al)=some g) (hf:cw v.D.files g=some f) (ag:(j3 f.bytes).1=ws.map fy) (hb:f.bytes.length<=1048576) (hw:fM ws v.seq) (hT:v.T=[])
 (hB:B+40<=1000000) (Y:v.k.files.length<=c) (w w0:World) (F:ba) (m:Mod w w0 (N0 e p E z x2 t x5 V A c v (aE b8 (.cells #[ap E] 61 (0,0))*(aE U (.cells #[ap e] 26 (0,0))*F)))) (tab:fX F) (af:qf F) :
 Calls Tryz.prog 57 #[ap b8,ap U] w fun en w'=>en=.returned (.tuple #[])/\∃(v':eN)(ai ak t':Nat)(A':Option Addr)(c':Nat),cv v' (B+40) N 4/\Pq {v with T:=jd [] ws.flatten,seq:=v.seq+ws.length} v'/\v'.k.files.length<=c'/\Mod w' w0 (o6 e p E ai ak t' V A' c' v' (aE b8 (.cells #[ap E] 61 (0,0))*(aE U (.cells #[ap e] 26 (0,0))*F))):=by
 have HF:=zbj (fun(u:World)(X:ba)(mu:Mod u w0 (N0 e p E z x2 t x5 V A c {v with T:=jd [] ws.flatten,seq:=v.seq+ws.length} X))(hX:fX X)=>uv e p E z t V x2 x5 A c _ B N h M au hB Y u w0 X mu hX);have J:=zbj tab;have ae:=zbj af;have HR:=zbj (fun(u:World)(X:ba)(mu:Mod u w0 (N0 e p E z x2 t x5 V A c v X))(hX:fX X)(hD:qf X)=>PA e p E z t V x2 x5 A c v ws g f hj hg hf ag hb hw hT u w0 X mu hX hD);have Z:=zbj (fun(u:World)(X:ba)(mu:Mod u w0 (gA E p (ap z) v.num v.xs.length (.slice A v.k.files.length v.k.files.length) v.k.nums*X))=>n7 E p (ap z) v.num v.xs.length (.slice A v.k.files.length v.k.files.length) v.k.nums u w0 X mu);rw[show v.k.nums.1=v.k.al from rfl]at Z;obtain⟨v2,ah⟩:∃v2,({v with T:=jd [] ws.flatten,seq:=v.seq+ws.length}:eN)=v2:=⟨_,rfl⟩;rw[ah]at HF HR ⊢;have av:(0:Int)<(v.k.al:Int):=oMg
 clear h M Y tab af hg hf ag hb hw hT ah;go_enter Tryz.func57,Tryz.ntmps57
 go_wp2_with (go_at_call 58;refine(Z.out _ _ (Mod.pull (m:=m) (gA E p (ap z) v.num v.xs.length (.slice A v.k.files.length v.k.files.length) v.k.nums))).mono ?_;rintro ex w1 ⟨rfl,m1⟩;refine Hid.out ?_)
 have m2:Mod w1 w0 (N0 e p E z x2 t x5 V A c v (aE b8 (.cells #[ap E] 61 (0,0))*(aE U (.cells #[ap e] 26 (0,0))*F))):=Mod.keep m1;clear m m1 Z;refine zbj ?_;go_wp2_with (go_at_call 59;refine(HR.out _ _ m2 (J.out.lift zbk) (ae.out.lift zbk)).mono ?_;rintro ex w3 ⟨rfl,m3⟩;refine Hid.out ?_)
 clear m2 HR;refine zbj ?_;go_wp2_with (go_at_call 32;refine(HF.out _ _ m3 (J.out.lift zbk)).mono ?_;rintro ex w4 ⟨rfl,v1,O,aa,t1,A1,c1,I,y,K,m4⟩;refine Hid.out ?_)
 have aj:=zbj (fun(u:World)(X:ba)(mu:Mod u w0 (o6 e p E O aa t1 V A1 c1 v1 X))(hX:fX X)=>CX e p E O aa t1 V A1 c1 v1 (B+40) N 4 I oMg K u w0 X mu hX);have HP:=zbj (⟨I,y,K⟩:_/\_/\_);clear I y K m3 HF;refine zbj ?_;go_wp2_with (go_at_call 60;refine(aj.out _ _ m4 (J.out.lift zbk)).mono ?_;rintro ex w5 ⟨rfl,m5⟩)
 go_end0
 obtain⟨I,y,K⟩:=HP.out;exact⟨rfl,v1.named,O,aa,t1,A1,c1,I.named I.disk.man.few,⟨y.T,y.ws,y.seq,y.sure,y.H,y.W,y.size,y.xs⟩,K,m5⟩
end Go.Proofs.YtdfppjcaelghhaaGreatDoor
set_option maxRecDepth 8000
set_option maxHeartbeats 16000000
namespace Go.Proofs.YtdfppjcaelghhaaGreatDoor
open Go.RowKit Go.Sl Go.Shelf
attribute [local go_sem] ab bj bh bd Mv
def QR (D:aq)(num:Nat)(xs:List db)(k:dk)(ent:Nat->List ao)(ws:List (List ao))(W:List ao):eN:=⟨D,num,xs,k,ent,jd [] ws.flatten,[],k.seq+ws.length,0,[],W⟩
theorem Qd (n:Nat):iT (ez n)=true:=by
 unfold iT;rw[um];simp[Lib.hasPrefix]
theorem P8 (n:Nat):iT (cY n)=true:=by
 unfold iT;rw[um];simp[Lib.hasPrefix]
theorem qb.eng {D:aq}{num:Nat}{xs:List db}{k:dk}{ent:Nat->List ao}(h:qb D num xs k ent (·∈jL k.al)){s:ByteArray}(E:br D.now s≠none):iT s=true:=by
 cases z:gc s with
 | true =>
   unfold iT;have B:Lib.hasPrefix s.data.toList (⟨#[109]⟩:ByteArray).data.toList=true:=z;rw[B];rfl
 | false =>
   rcases h.only s z E with y | ⟨f,_,rfl⟩
   ·unfold jL at y
    split at y
    ·cases y
    ·rw[ZE]at y
     rw[y];exact Qd _
   ·exact P8 _
def QD (p:Nat)(D:aq)(k:dk)(ws:List (List ao))(W:List ao)(B N:Nat)(w0:World)(F:ba)(y:Ending)(z:World):Prop :=
 ∃(e:Nat)(v:eN),y=.returned (.tuple #[ap e,.int .i64 0])/\cv v (B+40) N 4/\(v.seq=k.seq+ws.length/\v.sure=k.seq+ws.length/\v.H=[]/\v.W=W/\v.D.size=D.size)/\eV e p v w0 F z
theorem PR (p num:Nat)(k:dk)(D:aq)(xs:List db)(ent:Nat->List ao)(ws:List (List ao))(W:List ao)(B N g:Nat)(f:dr)(w w0:World)(F:ba)(m:Mod w w0 (bv p D*F))(tab:fX F)(aO:qf F)(hD:qb D num xs k ent (·∈jL k.al))(aV:num<4294967296)(bE:0<k.al)(bD:k.files=[])
 (hg:br D.now (ez k.al)=some g) (hf:cw D.files g=some f) (aj:(j3 f.bytes).1=ws.map fy) (hb:f.bytes.length<=1048576) (hw:fM ws k.seq)
 (M:∀V,qb V num xs k ent (·∈jL k.al)->EnCore (QR V num xs k ent ws W) B N 4) (O:∀V,V.size=D.size->yD (QR V num xs k ent ws W) N) (hB:B+40<=1000000) :
 Calls Tryz.prog 19 #[ap p] w (QD p D k ws W B N w0 F):=by
 have aW:=p7 (F:=F) m ⟨rfl⟩;have aR:iT nX=false:=by decide
 have hX:br D.now nX=none:=by
  cases hx:br D.now nX with
  | none=>rfl
  | some x =>
    have h1:=hD.eng (s:=nX) (by rw[hx];exact fun h=>by cases h);rw[aR]at h1;cases h1
 have HS:=zbj (wT p D nX w w0 _ F m ⟨rfl⟩ (by decide) OL hX);obtain⟨names,I⟩:∃names,names=(e8 D).map fun l=>(⟨l.toArray⟩:ByteArray):=⟨_,rfl⟩
 have aU:∀s∈names,iT s=true:=fun s hs=>by
  rw[I]at hs;obtain⟨l,hl,rfl⟩:=Zz.1 hs;obtain⟨q,hq,bF⟩:=uD.1 hl;have e:(⟨l.toArray⟩:ByteArray)=q.1:=by rw[<-bF]
  rw[e];exact hD.eng fun hn=>ot hn q hq rfl
 obtain⟨gm,gj,a1,_⟩:=hD.man.disk.ex;have aI:nM∈names:=by rw[I];exact Pu a1
 obtain⟨nL,av⟩:∃n,(e8 D).length=n:=⟨_,rfl⟩;have bN:nL<=64:=by rw[<-av,tT];exact aW.many
 have af:names.length=nL:=by rw[I,ZW,av]
 have bO:0<nL:=by rw[<-af];exact List.length_pos_of_mem aI
 have HL:=zbj (fun(u:World)(X:ba)(mu:Mod u w0 (bv p D*X))=>tz p D u w0 _ X mu ⟨rfl⟩);rw[av,gH,<-I]at HL;have az:=zbj (fun(b6:Nat)(Bn:Option Addr)(cn:Nat)(u:World)(S:ba)(mu:Mod u w0 S)(r:bk S Bn nL (pT names))(h:jq S b6 (.cells #[.func (.func 48) #[] #[]] 102 (0,0)))=>wb 52 #[ap b6] Bn nL cn names u w0 S mu r af oMg (enters_of Tryz.func52 kRf rfl) fun s hs u2 bJ=>PQ s (aU s hs) b6 u2 w0 S bJ h)
 have aK:Hid (∀(u:World)(S:ba)(B:Option Addr)(c:Nat),Mod u w0 S->bk S B nL (names.map Value.string)->Calls Tryz.prog 53 #[.slice B nL c,.string nM] u fun e w'=>e=.returned (.bool true)/\Mod w' w0 S):=fun u S B c mu rd=>by
  have h1:=zT B nL c names nM u w0 S mu rd oMg;rw[Bf aI]at h1;exact h1
 have ai:nL-1<names.length:=oMg
 obtain⟨last,ay⟩:∃s,names[nL-1]=s:=⟨_,rfl⟩;have ag:Hid (∀h:nL-1<names.length,names[nL-1]=last):=fun _=>ay;have aB:=zbj (fun(u:World)(S:ba)(mu:Mod u w0 S)=>mN last ⟨#[109]⟩ u w0 S mu);generalize Lib.hasPrefix last.data.toList (⟨#[109]⟩:ByteArray).data.toList=bz at *;have T:=zbj tab;have aL:=zbj aO;have aM:=zbj (fun(u:World)(X:ba)(mu:Mod u w0 (bv p D*(F*X)))=>Qe p num k D xs u w0 (F*X) mu hD.man hX (tab.lift zbk) aV);have HD:=zbj hD;have Y:=zbj ai;have bM:=zbj af;have bf:=zbj (And.intro hg (And.intro hf (And.intro aj (And.intro hb hw))));have HC:=zbj M;have bq:=zbj O;have HX:=zbj hX;clear tab aO hD hg hf aj hb hw M O hX ay aU aI I af ai aW av a1 aR;go_enter Tryz.func19,Tryz.ntmps19
 have aP:=True.intro
 go_wp2_with first
  | (go_at_call 47;clear aP;refine HS.out.mono ?_;rintro e w1 ⟨rfl,m1⟩)
 obtain⟨b6,aF⟩:∃x,w1.heap.size=x:=⟨_,rfl⟩;have aY:Mod (w1.alloc (.cells #[.func (.func 48) #[] #[]] 102)) w0 (aE b6 (.cells #[.func (.func 48) #[] #[]] 102 (0,0))*_):=Mod.alloc (m:=m1) (hn:=⟨aF⟩) _;rw[aF];generalize w1.alloc (.cells #[.func (.func 48) #[] #[]] 102)=bS at *;clear aF m1 m HS;refine(HL.out _ _ (Mod.pull (m:=aY) (bv p D))).mono ?_;rintro e w2 ⟨Bn,cn,rfl,m2⟩;clear aY HL;obtain⟨n1,rfl⟩:∃n1,nL=n1+1:=⟨nL-1,oMg⟩;obtain⟨bn,on,rfl,_⟩:=px m2 (zbk:bk _ Bn (n1+1) (pT names)) oMg;go_upto_region 6 with fail
 go_cut [43]from 21 to 44 (fun bL wx=>bL=.bool false/\Mod wx w0 (bv p D*(F*(ar 9 1 (.slice (some ⟨bn,on,none⟩) (n1+1) cn) (n1+1) (pT names)*(aE b6 (.cells #[.func (.func 48) #[] #[]] 102 (0,0)))))))
 case first =>
  go_wp2_with (go_at_call 51;refine(az.out b6 (some ⟨bn,on,none⟩) cn _ _ m2 zbk zbk).mono ?_;rintro e w3 ⟨rfl,m3⟩;refine Hid.out ?_)
  have m4:Mod w3 w0 (bv p D*(F*(ar 9 1 (.slice (some ⟨bn,on,none⟩) (n1+1) cn) (n1+1) (pT names)*(aE b6 (.cells #[.func (.func 48) #[] #[]] 102 (0,0)))))):=Mod.keep m3;clear m2 m3 az;obtain⟨bP,bQ,aH,ah⟩:=px m4 (zbk:bk _ (some ⟨bn,on,none⟩) (n1+1) (pT names)) oMg;injection aH with aH;injection aH with hb1 hb2;subst hb1 hb2;have hc:=ah (n1+1-1) Y.out;rw[ag.out Y.out,XG]at hc;clear ah ag Y;refine zbj ?_;go_wp2_with (go_at_call 49;refine(aB.out _ _ m4).mono ?_;rintro e w4 ⟨rfl,m5⟩;refine Hid.out ?_)
  clear m4 aB hc;refine zbj ?_
  cases bz with
  | true =>
    go_wp2_with fail
    go_meet
    exact⟨rfl,m5⟩
  | false =>
    go_wp2_with (go_at_call 53;refine(aK.out _ _ _ _ m5 zbk).mono ?_;rintro e w5 ⟨rfl,m6⟩;refine Hid.out ?_)
    clear m5;refine zbj ?_;go_wp2_with fail
    go_meet
    exact⟨rfl,m6⟩
 case rest =>
  obtain⟨rfl,m4⟩:=hcut;clear m2 az aK aB ag Y;go_wp2_with (go_at_call 54;refine(aM.out _ _ m4).mono ?_;rintro e w5 aX;obtain⟨J,jj,AM,cM,V,rfl,h1,h2,bC,aZ⟩:=aX;refine Hid.out ?_)
  have bg:=zbj (And.intro h1 h2);have m5:Mod w5 w0 (fL J p jj num xs.length AM cM k V (al [] (cf xs)).length F):=Mod.keep aZ;clear h1 h2 aM m4 aZ;refine zbj ?_;go_upto_region 11 with fail
  obtain⟨b8,aG⟩:∃x,w5.heap.size=x:=⟨_,rfl⟩;have m6:Mod (w5.alloc (.cells #[ap J] 61)) w0 (aE b8 (.cells #[ap J] 61 (0,0))*_):=Mod.alloc (m:=m5) (hn:=⟨aG⟩) _;rw[aG];generalize w5.alloc (.cells #[ap J] 61)=w6 at *;clear aG m5
  have E:Hid (∀(K e t hm:Nat)(wx:World),Mod wx w0 (Go.Sl.gv hm []*(aE K (.cells #[ap e] 26 (0,0))*(jT e p (ap J) (.pointer none) (ap t) (.int .u64 0) (.int .u64 0) (.map (some hm))*(im t []*(sC*(aE b8 (.cells #[ap J] 61 (0,0))*(fL J p jj num xs.length AM cM k V (al [] (cf xs)).length F)))))))->Mod wx w0 (aE K (.cells #[ap e] 26 (0,0))*(jT e p (ap J) (.pointer none) (ap t) (.int .u64 0) (.int .u64 0) (.map (some hm))*(im t []*(U64.gv hm []*(aE b8 (.cells #[ap J] 61 (0,0))*(fL J p jj num xs.length AM cM k V (al [] (cf xs)).length F))))))):=fun K e t hm wx mx=>by
   have m1:=U64.Dc (m:=mx);exact Mod.keep m1
  go_cut [10]from 52 to 58 (fun bK wx=>∃(K e t hm:Nat),bK=ap K/\Mod wx w0 (aE K (.cells #[ap e] 26 (0,0))*(jT e p (ap J) (.pointer none) (ap t) (.int .u64 0) (.int .u64 0) (.map (some hm))*(im t []*(U64.gv hm []*(aE b8 (.cells #[ap J] 61 (0,0))*(fL J p jj num xs.length AM cM k V (al [] (cf xs)).length F)))))))
  case first =>
   go_region_with (go_at_call 55;refine(AX _ w0 _ zbk).mono ?_;rintro ex y ⟨t2,rfl,bI⟩)
   all_goals (go_wp2_with fail)
   all_goals go_meet
   all_goals
    first
    | (refine⟨w6.heap.size,(y.heap.size+1),t2,y.heap.size,rfl,lR fun z=>?_⟩;(try simp only[Zb,Zc]at z);first | exact Mod.keep z | exact E.out w6.heap.size (y.heap.size+1) t2 y.heap.size _ (Mod.keep z))
    | (refine⟨y.heap.size,(y.heap.size+1+1),t2,(y.heap.size+1),rfl,lR fun z=>?_⟩;(try simp only[Zb,Zc,Zd]at z);first | exact Mod.keep z | exact E.out y.heap.size (y.heap.size+1+1) t2 (y.heap.size+1) _ (Mod.keep z))
    | (refine⟨y.heap.size,(y.heap.size+1),t2,w6.heap.size,rfl,lR fun z=>?_⟩;(try simp only[Zb,Zc,Zd]at z);first | exact Mod.keep z | exact E.out y.heap.size (y.heap.size+1) t2 w6.heap.size _ (Mod.keep z))
    | (refine⟨(y.heap.size+1),(y.heap.size+1+1),t2,y.heap.size,rfl,lR fun z=>?_⟩;(try simp only[Zb,Zc,Zd]at z);first | exact Mod.keep z | exact E.out (y.heap.size+1) (y.heap.size+1+1) t2 y.heap.size _ (Mod.keep z))
    | (refine⟨(y.heap.size+1),y.heap.size,t2,w6.heap.size,rfl,lR fun z=>?_⟩;(try simp only[Zb,Zc,Zd]at z);first | exact Mod.keep z | exact E.out (y.heap.size+1) y.heap.size t2 w6.heap.size _ (Mod.keep z))
    | (refine⟨(y.heap.size+1+1),(y.heap.size+1),t2,y.heap.size,rfl,lR fun z=>?_⟩;(try simp only[Zb,Zc,Zd]at z);first | exact Mod.keep z | exact E.out (y.heap.size+1+1) (y.heap.size+1) t2 y.heap.size _ (Mod.keep z))
    | (refine⟨(w6.heap.size+1),y.heap.size,t2,w6.heap.size,rfl,lR fun z=>?_⟩;(try simp only[Zb,Zc]at z);first | exact Mod.keep z | exact E.out (w6.heap.size+1) y.heap.size t2 w6.heap.size _ (Mod.keep z))
    | (refine⟨w6.heap.size,y.heap.size,t2,(w6.heap.size+1),rfl,lR fun z=>?_⟩;(try simp only[Zb,Zc]at z);first | exact Mod.keep z | exact E.out w6.heap.size y.heap.size t2 (w6.heap.size+1) _ (Mod.keep z))
  case rest =>
   obtain⟨K,e,t,hm,rfl,m7⟩:=hcut;clear m6 E;have aD:=zbj (fun(u:World)(X:ba)(mu:Mod u w0 (gA J p (ap jj) num xs.length (.slice AM k.files.length k.files.length) k.nums*X))=>Co J p (ap jj) num xs.length (.slice AM k.files.length k.files.length) k.nums u w0 X mu);rw[show k.nums.2.2=k.seq from rfl]at aD;go_upto_region 12 with fail
   go_cut []from 58 to 63 (fun wx=>Mod wx w0 (aE K (.cells #[ap e] 26 (0,0))*(jT e p (ap J) (.pointer none) (ap t) (.int .u64 (k.seq:Int)) (.int .u64 0) (.map (some hm))*(im t []*(U64.gv hm []*(aE b8 (.cells #[ap J] 61 (0,0))*(fL J p jj num xs.length AM cM k V (al [] (cf xs)).length F)))))))
   case first =>
    go_region_with (go_at_call 56;refine(aD.out _ _ (Mod.pull (m:=(zbk:Mod _ w0 _)) (gA J p (ap jj) num xs.length (.slice AM k.files.length k.files.length) k.nums))).mono ?_;rintro ex y ⟨rfl,bI⟩)
    all_goals (go_wp2_with fail)
    all_goals go_meet
    all_goals
     refine lR fun z=>?_
     (try simp only[Zb,Zc,Zd]at z)
     exact Mod.keep z
   case rest =>
    have m8:=hcut;clear hcut m7 aD;obtain⟨aJ,aa⟩:=bg.out;obtain⟨hg,hf,aj,hb,hw⟩:=bf.out;have aQ:qb V num xs k ent (·∈jL k.al):=⟨aJ,fun f ae=>⟨(HD.out.each f ae).here.kept aa.kept (qm _),(HD.out.each f ae).least,(HD.out.each f ae).most,(HD.out.each f ae).num⟩,fun s ho hs=>HD.out.only s ho (by rw[<-aa.now s ho];exact hs),HD.out.lev,HD.out.jn⟩;have M:=HC.out V aQ;have O:=bq.out V aa.size;have aT:k.al<4294967296:=aJ.know.al;have aS:br V.now (ez k.al)=some g:=(aa.now _ (oW _)).trans hg;have ae:cw V.files g=some f:=aa.file _ _ _ (oW _) hg hf;obtain⟨v0,U⟩:∃v0:eN,v0=⟨V,num,xs,k,ent,[],[],k.seq,0,[],W⟩:=⟨_,rfl⟩
    have m9:Mod wc w0 (N0 e p J jj (.pointer none) t (.int .u64 0) hm AM cM v0 (aE b8 (.cells #[ap J] 61 (0,0))*(aE K (.cells #[ap e] 26 (0,0))*F))):=by
     rw[U];show Mod wc w0 (fL J p jj num xs.length AM cM k V (al [] (cf xs)).length (jT e p (ap J) (.pointer none) (ap t) (.int .u64 (k.seq:Int)) (.int .u64 0) (.map (some hm))*(im t []*(U64.gv hm []*(aE b8 (.cells #[ap J] 61 (0,0))*(aE K (.cells #[ap e] 26 (0,0))*F))))));exact Mod.keep m8
    have ak:({v0 with T:=jd [] ws.flatten,seq:=v0.seq+ws.length}:eN)=QR V num xs k ent ws W:=by rw[U];rfl
    have aN:=zbj (r8 (α:=eN×Nat×Nat×Nat×Option Addr×Nat) 57 #[ap b8,ap K] (fun a=>cv a.1 (B+40) N 4/\Pq (QR V num xs k ent ws W) a.1/\a.1.k.files.length<=a.2.2.2.2.2) (fun a=>o6 e p J a.2.1 a.2.2.1 a.2.2.2.1 hm a.2.2.2.2.1 a.2.2.2.2.2 a.1 (aE b8 (.cells #[ap J] 61 (0,0))*(aE K (.cells #[ap e] 26 (0,0))*F))) wc w0 _ m9 (enters_of Tryz.func57 kRf rfl) (fun G u mu=>by
     refine(PC b8 K e p J jj t hm (.pointer none) (.int .u64 0) AM cM v0 ws B N (by rw[ak];exact M) (by rw[ak];exact O) (fun _=>.inr (by rw[U];exact bD)) g f (by rw[U];exact bE) (by rw[U];exact aT) (by rw[U];exact aS) (by rw[U];exact ae) aj hb (by rw[U];exact hw) (by rw[U]) hB (by rw[U];exact bC) u w0 (F*G) (Mod.keep mu) (T.out.lift zbk) (aL.out.lift zbk)).mono ?_;rintro en w' ⟨rfl,v',j',e',t',A',c',h1,h2,h3,m4⟩;rw[ak]at h2
     exact⟨rfl,⟨v',j',e',t',A',c'⟩,⟨h1,h2,h3⟩,Mod.keep m4⟩))
    have bu:Hid (V.size=D.size):=aa.size;clear aJ aa M O m8 hg hf aj hb hw aQ aS ae ak U;go_wp2_with (go_at_call 28;refine aN.out.mono ?_;rintro ex bR ⟨rfl,⟨v1,bG,bB,t1,A1,c1⟩,⟨ax,Z,au⟩,bH⟩;refine Hid.out ?_)
    have HP:=zbj (⟨ax,Z,au⟩:_/\_/\_);clear ax Z au aN m9;refine zbj ?_;go_wp2_with fail
    go_ret2
    obtain⟨ax,Z,au⟩:=HP.out;exact⟨e,v1,rfl,ax,⟨Z.seq,Z.sure,Z.H,Z.W,Z.size.trans bu.out⟩,J,bG,bB,t1,hm,A1,c1,au,Mod.keep bH⟩
end Go.Proofs.YtdfppjcaelghhaaGreatDoor
