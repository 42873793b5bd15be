/- Plain lemmas and contracts; the conditions are in each. -/
import Derived.Test.YtdfppjcaelghhaaGreatDoorEnPG
set_option maxRecDepth 8000
set_option maxHeartbeats 16000000
namespace Go.Proofs.YtdfppjcaelghhaaGreatDoor
open Go.RowKit Go.Sl Go.Shelf
attribute [local go_sem] ab bj bh bd
@[local go_sem] theorem Mv {P:Program}{w:World}(a:Addr)(m:Mode)(z:Fn)(x y:Array Value):(store a (.func z x y) m).run P w=stored P w a (.func z x y) m:=run_store P w a _ m rfl
def J8 (D:aq):eN:=⟨D,1,[],ji,fun _=>[],[],[],0,0,[],[]⟩
theorem J9 {D:aq}{n N:Nat}(E:jG D 1 [] ji)(B:ki (ew n) D):EnCore (J8 D) 1 N 4 where
 disk:=⟨E,fun f z=>(by cases z),fun s I y=>by
  have y:br D.now s≠none:=y;rw[B.now s I]at y
  exact absurd rfl y,fun f z=>(by cases z),by show 0<max 1 0;decide⟩
 rise:=List.Pairwise.nil
 cont:=qc.none 0 [0]
 many:=Zv _
 small:=Zv _
 lv0:=Zv _
 lv1:=Zv _
 lv3:=Zv _
 num:=Zm _
 next:=Zv _
 seq:=Zv _
 zN:=Zm _
 held:=fun q J=>(by cases J)
 qw:=za3
structure Pq (v v':eN):Prop where
 T:v'.T=[]
 ws:v'.ws=[]
 seq:v'.seq=v.seq
 sure:v'.sure=v.seq
 H:v'.H=v.H
 W:v'.W=v.W
 size:v'.D.size=v.D.size
 xs:v.D.size≠8388608->(al [] (cf v'.xs)).length<=25000
theorem DS (b8 O e p I z t hm:Nat)(x2 x5:Value)(A:Option Addr)(c:Nat)(v:eN)(B N:Nat)(h:EnCore v B N 4)(K:yD v N)(ag:v.D.size=8388608->gF\/v.k.files=[])(hj:v.k.al=0)(hB:B+40<=1000000)(V:v.k.files.length<=c)(w w0:World)(F:ba)(m:Mod w w0 (N0 e p I z x2 t x5 hm A c v (aE b8 (.cells #[ap I] 61 (0,0))*(aE O (.cells #[ap e] 26 (0,0))*F))))(tab:fX F) :
 Calls Tryz.prog 57 #[ap b8,ap O] w fun en w'=>en=.returned (.tuple #[])/\∃(v':eN)(aa af t':Nat)(A':Option Addr)(c':Nat),cv v' (B+40) N 4/\Pq v v'/\v'.k.files.length<=c'/\Mod w' w0 (o6 e p I aa af t' hm A' c' v' (aE b8 (.cells #[ap I] 61 (0,0))*(aE O (.cells #[ap e] 26 (0,0))*F))):=by
 have HF:=zbj (fun(u:World)(X:ba)(mu:Mod u w0 (N0 e p I z x2 t x5 hm A c v X))(hX:fX X)=>uv e p I z t hm x2 x5 A c v B N h K ag hB V u w0 X mu hX);have U:=zbj tab;have Y:=zbj (fun(u:World)(X:ba)(mu:Mod u w0 (gA I p (ap z) v.num v.xs.length (.slice A v.k.files.length v.k.files.length) v.k.nums*X))=>n7 I p (ap z) v.num v.xs.length (.slice A v.k.files.length v.k.files.length) v.k.nums u w0 X mu);rw[show v.k.nums.1=0 from hj]at Y;clear h K hj V tab;go_enter Tryz.func57,Tryz.ntmps57
 go_wp2_with (go_at_call 58;refine(Y.out _ _ (Mod.pull (m:=m) (gA I p (ap z) v.num v.xs.length (.slice A v.k.files.length v.k.files.length) v.k.nums))).mono ?_;rintro ex w1 ⟨rfl,m1⟩;refine Hid.out ?_)
 have m2:Mod w1 w0 (N0 e p I z x2 t x5 hm A c v (aE b8 (.cells #[ap I] 61 (0,0))*(aE O (.cells #[ap e] 26 (0,0))*F))):=Mod.keep m1;clear m m1 Y;refine zbj ?_;go_wp2_with (go_at_call 32;refine(HF.out _ _ m2 (U.out.lift zbk)).mono ?_;rintro ex w3 ⟨rfl,v1,M,Z,t1,A1,c1,E,y,J,m3⟩;refine Hid.out ?_)
 have ae:=zbj (fun(u:World)(X:ba)(mu:Mod u w0 (o6 e p I M Z t1 hm A1 c1 v1 X))(hX:fX X)=>CX e p I M Z t1 hm A1 c1 v1 (B+40) N 4 E oMg J u w0 X mu hX);have HP:=zbj (⟨E,y,J⟩:_/\_/\_);clear E y J m2 HF;refine zbj ?_;go_wp2_with (go_at_call 60;refine(ae.out _ _ m3 (U.out.lift zbk)).mono ?_;rintro ex w4 ⟨rfl,m4⟩)
 go_end0
 obtain⟨E,y,J⟩:=HP.out;exact⟨rfl,v1.named,M,Z,t1,A1,c1,E.named E.disk.man.few,⟨y.T,y.ws,y.seq,y.sure,y.H,y.W,y.size,y.xs⟩,J,m4⟩
theorem yX (B:Option Addr)(c:Nat)(f:Value)(w w0:World)(S:ba)(m:Mod w w0 S):Calls Tryz.prog 51 #[.slice B 0 c,f] w fun e y=>e=.returned (.bool false)/\Mod y w0 S:=by
 have z:Hid (∀(u:World),Mod u w0 S->Calls Tryz.prog 100 #[.slice B 0 c,f] u fun e y=>e=.returned (.int .i64 (-1))/\Mod y w0 S):=fun u J=>by
  go_enter Tryz.func100,Tryz.ntmps100
  go_wp2_with fail
  go_loopg [8] 0 (fun gk K wr=>gk=0/\K=.int .i64 0/\Mod wr w0 S)
  case atStart=>exact⟨rfl,rfl,J⟩
  case round =>
   obtain⟨_,rfl,I⟩:=hrel;go_wp2_with fail
   go_ret
   exact⟨rfl,I⟩
 go_enter Tryz.func51,Tryz.ntmps51
 go_wp2_with (go_at_call 100;refine(z.out _ m).mono ?_;rintro e w1 ⟨rfl,E⟩)
 go_ret
 exact⟨rfl,E⟩
def MK (p n N:Nat)(w0:World)(F:ba)(y:Ending)(z:World):Prop :=
 (∃(e:Nat)(v:eN),y=.returned (.tuple #[ap e,.int .i64 0])/\cv v 41 N 4/\v.T=[]/\v.ws=[]/\v.seq=0/\v.sure=0/\v.H=[]/\v.W=[]/\v.D.size=n/\(n≠8388608->(al [] (cf v.xs)).length<=25000)/\eV e p v w0 F z)
theorem FY (p n N:Nat)(w w0:World)(F:ba)(m:Mod w w0 (bv p (ew n)*F))(tab:fX F)(hn:(n=8388608/\N<=2300)\/400000<=n):Calls Tryz.prog 19 #[ap p] w (MK p n N w0 F):=by
 have HS:=zbj (wT p (ew n) nX w w0 _ F m ⟨rfl⟩ (by decide) OL rfl);have HL:=zbj (fun(u:World)(X:ba)(mu:Mod u w0 (bv p (ew n)*X))=>tz p (ew n) u w0 _ X mu ⟨rfl⟩);rw[Ek]at HL;have T:=zbj tab
 have ak:Hid (∀(u:World)(X:ba),Mod u w0 (bv p (ew n)*(F*X))->Calls Tryz.prog 54 #[ap p] u fun en w'=>∃(E V:Nat)(M:aq),en=.returned (.tuple #[ap E,.int .i64 0])/\(jG M 1 [] ji/\ki (ew n) M)/\Mod w' w0 (fL E p V 1 0 none 0 ji M (al [] (cf [])).length (F*X))):=fun u X mu=>by
  refine(J0 p n u w0 (F*X) mu (tab.lift zbk)).mono ?_;rintro en w' (⟨E,V,M,h1,h2,h3,h4⟩ | ⟨h1,_⟩)
  ·exact⟨E,V,M,h1,⟨h2,h3⟩,h4⟩
  ·omega
 clear tab;go_enter Tryz.func19,Tryz.ntmps19
 have ax:=True.intro
 go_wp2_with first
  | (go_at_call 47;clear ax;refine HS.out.mono ?_;rintro e w1 ⟨rfl,m1⟩)
 obtain⟨b6,ai⟩:∃x,w1.heap.size=x:=⟨_,rfl⟩;have aD:Mod (w1.alloc (.cells #[.func (.func 48) #[] #[]] 102)) w0 (aE b6 (.cells #[.func (.func 48) #[] #[]] 102 (0,0))*_):=Mod.alloc (m:=m1) (hn:=⟨ai⟩) _;rw[ai];generalize w1.alloc (.cells #[.func (.func 48) #[] #[]] 102)=aN at *;clear ai m1 m HS;refine(HL.out _ _ (Mod.pull (m:=aD) (bv p (ew n)))).mono ?_;rintro e w2 ⟨B,c,rfl,m2⟩;clear aD HL;go_wp2_with (go_at_call 51;refine(yX B c _ _ w0 _ m2).mono ?_;rintro e w3 ⟨rfl,m3⟩;refine Hid.out ?_)
 refine zbj ?_;have m4:Mod w3 w0 (bv p (ew n)*(F*(aE b6 (.cells #[.func (.func 48) #[] #[]] 102 (0,0))))):=Mod.keep m3;clear m2 m3;go_wp2_with (go_at_call 54;refine(ak.out _ _ m4).mono ?_;rintro e w5 ⟨E,V,M,rfl,ay,m5⟩;refine Hid.out ?_)
 have aF:=zbj ay;clear ay ak m4;refine zbj ?_;go_upto_region 11 with fail
 obtain⟨b8,aj⟩:∃x,w5.heap.size=x:=⟨_,rfl⟩;have m6:Mod (w5.alloc (.cells #[ap E] 61)) w0 (aE b8 (.cells #[ap E] 61 (0,0))*_):=Mod.alloc (m:=m5) (hn:=⟨aj⟩) _;rw[aj];generalize w5.alloc (.cells #[ap E] 61)=Y at *;clear aj m5
 have I:Hid (∀(J e t O:Nat)(wx:World),Mod wx w0 (Go.Sl.gv O []*(aE J (.cells #[ap e] 26 (0,0))*(jT e p (ap E) (.pointer none) (ap t) (.int .u64 0) (.int .u64 0) (.map (some O))*(im t []*(sC*(aE b8 (.cells #[ap E] 61 (0,0))*(fL E p V 1 0 none 0 ji M (al [] (cf [])).length F)))))))->Mod wx w0 (aE J (.cells #[ap e] 26 (0,0))*(jT e p (ap E) (.pointer none) (ap t) (.int .u64 0) (.int .u64 0) (.map (some O))*(im t []*(U64.gv O []*(aE b8 (.cells #[ap E] 61 (0,0))*(fL E p V 1 0 none 0 ji M (al [] (cf [])).length F))))))):=fun J e t O wx mx=>by
  have m1:=U64.Dc (m:=mx);exact Mod.keep m1
 go_cut [10]from 52 to 58 (fun aK wx=>∃(J e t O:Nat),aK=ap J/\Mod wx w0 (aE J (.cells #[ap e] 26 (0,0))*(jT e p (ap E) (.pointer none) (ap t) (.int .u64 0) (.int .u64 0) (.map (some O))*(im t []*(U64.gv O []*(aE b8 (.cells #[ap E] 61 (0,0))*(fL E p V 1 0 none 0 ji M (al [] (cf [])).length F)))))))
 case first =>
  go_region_with (go_at_call 55;refine(AX _ w0 _ zbk).mono ?_;rintro ex y ⟨U,rfl,aJ⟩)
  all_goals (go_wp2_with fail)
  all_goals go_meet
  all_goals
   first
   | (refine⟨Y.heap.size,(y.heap.size+1),U,y.heap.size,rfl,lR fun z=>?_⟩;(try simp only[Zb,Zc]at z);first | exact Mod.keep z | exact I.out Y.heap.size (y.heap.size+1) U y.heap.size _ (Mod.keep z))
   | (refine⟨y.heap.size,(y.heap.size+1+1),U,(y.heap.size+1),rfl,lR fun z=>?_⟩;(try simp only[Zb,Zc,Zd]at z);first | exact Mod.keep z | exact I.out y.heap.size (y.heap.size+1+1) U (y.heap.size+1) _ (Mod.keep z))
   | (refine⟨y.heap.size,(y.heap.size+1),U,Y.heap.size,rfl,lR fun z=>?_⟩;(try simp only[Zb,Zc,Zd]at z);first | exact Mod.keep z | exact I.out y.heap.size (y.heap.size+1) U Y.heap.size _ (Mod.keep z))
   | (refine⟨(y.heap.size+1),(y.heap.size+1+1),U,y.heap.size,rfl,lR fun z=>?_⟩;(try simp only[Zb,Zc,Zd]at z);first | exact Mod.keep z | exact I.out (y.heap.size+1) (y.heap.size+1+1) U y.heap.size _ (Mod.keep z))
   | (refine⟨(y.heap.size+1),y.heap.size,U,Y.heap.size,rfl,lR fun z=>?_⟩;(try simp only[Zb,Zc,Zd]at z);first | exact Mod.keep z | exact I.out (y.heap.size+1) y.heap.size U Y.heap.size _ (Mod.keep z))
   | (refine⟨(y.heap.size+1+1),(y.heap.size+1),U,y.heap.size,rfl,lR fun z=>?_⟩;(try simp only[Zb,Zc,Zd]at z);first | exact Mod.keep z | exact I.out (y.heap.size+1+1) (y.heap.size+1) U y.heap.size _ (Mod.keep z))
   | (refine⟨(Y.heap.size+1),y.heap.size,U,Y.heap.size,rfl,lR fun z=>?_⟩;(try simp only[Zb,Zc]at z);first | exact Mod.keep z | exact I.out (Y.heap.size+1) y.heap.size U Y.heap.size _ (Mod.keep z))
   | (refine⟨Y.heap.size,y.heap.size,U,(Y.heap.size+1),rfl,lR fun z=>?_⟩;(try simp only[Zb,Zc]at z);first | exact Mod.keep z | exact I.out Y.heap.size y.heap.size U (Y.heap.size+1) _ (Mod.keep z))
 case rest =>
  obtain⟨J,e,t,O,rfl,m7⟩:=hcut;clear m6 I;have ah:=zbj (fun(u:World)(X:ba)(mu:Mod u w0 (gA E p (ap V) 1 0 (.slice none ji.files.length ji.files.length) ji.nums*X))=>Co E p (ap V) 1 0 (.slice none ji.files.length ji.files.length) ji.nums u w0 X mu);rw[show ji.nums.2.2=0 from rfl]at ah;go_upto_region 12 with fail
  go_cut []from 58 to 63 (fun wx=>Mod wx w0 (aE J (.cells #[ap e] 26 (0,0))*(jT e p (ap E) (.pointer none) (ap t) (.int .u64 0) (.int .u64 0) (.map (some O))*(im t []*(U64.gv O []*(aE b8 (.cells #[ap E] 61 (0,0))*(fL E p V 1 0 none 0 ji M (al [] (cf [])).length F)))))))
  case first =>
   go_region_with (go_at_call 56;refine(ah.out _ _ (Mod.pull (m:=(zbk:Mod _ w0 _)) (gA E p (ap V) 1 0 (.slice none ji.files.length ji.files.length) ji.nums))).mono ?_;rintro ex y ⟨rfl,aJ⟩)
   all_goals (go_wp2_with fail)
   all_goals go_meet
   all_goals
    refine lR fun z=>?_
    (try simp only[Zb,Zc,Zd]at z)
    exact Mod.keep z
  case rest =>
   have m8:=hcut;clear hcut m7 ah;obtain⟨az,af⟩:=aF.out;have Z:EnCore (J8 M) 1 N 4:=J9 az af
   have aa:yD (J8 M) N:=by
    have aL:M.size=n:=af.size;rcases hn with⟨h1,h2⟩ | h1
    ·exact .inl ⟨by show M.size=_;omega,h2⟩
    ·exact .inr ⟨by show _<=M.size;omega,by show (al [] (cf [])).length<=20000;decide,rfl,rfl,rfl⟩
   have m9:Mod wc w0 (fL E p V 1 0 none 0 ji M (al [] (cf [])).length (jT e p (ap E) (.pointer none) (ap t) (.int .u64 0) (.int .u64 0) (.map (some O))*(im t []*(U64.gv O []*(aE b8 (.cells #[ap E] 61 (0,0))*(aE J (.cells #[ap e] 26 (0,0))*F)))))):=Mod.keep m8;have aB:Mod wc w0 (N0 e p E V (.pointer none) t (.int .u64 0) O none 0 (J8 M) (aE b8 (.cells #[ap E] 61 (0,0))*(aE J (.cells #[ap e] 26 (0,0))*F))):=m9
   have av:=zbj (r8 (α:=eN×Nat×Nat×Nat×Option Addr×Nat) 57 #[ap b8,ap J] (fun a=>cv a.1 41 N 4/\Pq (J8 M) a.1/\a.1.k.files.length<=a.2.2.2.2.2) (fun a=>o6 e p E a.2.1 a.2.2.1 a.2.2.2.1 O a.2.2.2.2.1 a.2.2.2.2.2 a.1 (aE b8 (.cells #[ap E] 61 (0,0))*(aE J (.cells #[ap e] 26 (0,0))*F))) wc w0 _ aB (enters_of Tryz.func57 kRf rfl) (fun G u mu=>by
    refine(DS b8 J e p E V t O (.pointer none) (.int .u64 0) none 0 (J8 M) 1 N Z aa (fun _=>.inr rfl) rfl oMg (Zm _) u w0 (F*G) (Mod.keep mu) (T.out.lift zbk)).mono ?_;rintro en w' ⟨rfl,v',j',e',t',A',c',h1,h2,h3,m4⟩
    exact⟨rfl,⟨v',j',e',t',A',c'⟩,⟨h1,h2,h3⟩,Mod.keep m4⟩))
   have au:Hid (M.size=n):=af.size;clear az af Z aa m8 m9;go_wp2_with (go_at_call 28;refine av.out.mono ?_;rintro ex aM ⟨rfl,⟨v1,aH,aG,t1,A1,c1⟩,⟨ag,K,ae⟩,aI⟩;refine Hid.out ?_)
   have HP:=zbj (⟨ag,K,ae⟩:_/\_/\_);clear ag K ae av aB;refine zbj ?_;go_wp2_with fail
   go_ret2
   obtain⟨ag,K,ae⟩:=HP.out;exact⟨e,v1,rfl,ag,K.T,K.ws,K.seq,K.sure,K.H,K.W,K.size.trans au.out,fun hs=>K.xs (by show M.size≠_;rw[au.out];exact hs),E,aH,aG,t1,O,A1,c1,ae,Mod.keep aI⟩
end Go.Proofs.YtdfppjcaelghhaaGreatDoor
