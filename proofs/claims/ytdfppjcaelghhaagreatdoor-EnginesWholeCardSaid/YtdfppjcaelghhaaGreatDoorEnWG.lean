/- Plain lemmas and contracts; the conditions are in each. -/
import Derived.Test.YtdfppjcaelghhaaGreatDoorEnFl
import Derived.Test.YtdfppjcaelghhaaGreatDoorEnOG
set_option maxRecDepth 8000
set_option maxHeartbeats 16000000
namespace Go.Proofs.YtdfppjcaelghhaaGreatDoor
open Go.RowKit Go.Sl
attribute [local go_sem] ab bj bh bd
structure NC (v v':eN):Prop where
 seq:v'.seq=v.seq
 H:v'.H=v.H
 W:v'.W=v.W
 size:v'.D.size=v.D.size
abbrev Pb (e p I y z t E:Nat)(A:Option Addr)(c:Nat)(v:eN)(g J:Nat)(B:List ao)(G:ba):ba :=
 fL I p y v.num v.xs.length A c v.k {v.D with files:=iS v.D.files g ⟨al [] ((v.ws++[B]).map fy),J⟩} (al [] (cf v.xs)).length (jT e p (ap I) (ap z) (ap t) (.int .u64 (v.seq:Int)) (.int .u64 (v.sure:Int)) (.map (some E))*(im t v.T*(U64.gv E (g6 v.H)*(dt z p (ez v.k.al) (al [] ((v.ws++[B]).map fy)).length*G))))
structure Fx (v v1:eN)(B N ne g su:Nat):Prop where
 rest:cv v1 B N 4
 same:NC v v1
 small:v1.T.length+ne<=1024
 name:br v1.D.now (ez v1.k.al)=some g
 file:cw v1.D.files g=some ⟨al [] (v1.ws.map fy),su⟩
 sure:(al [] ((v1.ws.take (v1.sure-v1.k.seq)).map fy)).length<=su
 still:ip v.T<=512->v.T.length+ne<=1024->v1=v
 ok:cJ v1.D
theorem Bh (e p b0 b1 b2 mp ak ej t hm:Nat)(A:Option Addr)(c:Nat)(v:eN)(B N:Nat)(es:List ao)(AE:Option Addr)(ne cE:Nat)(BB:Option Addr)(nb cb:Nat)(h:cv v B N 4)(aj:BK v N)(aY:v.D.size=8388608->gF\/v.k.files=[])(hB:B+40<=1000000)(ax:v.k.files.length<=c)
 (ay:es.length=ne) (aZ:ne<=32) (aG:∀x∈es,fS x) (aL:(fy es).length=nb) (aW:nb<=cb) (w w0:World) (F:ba) (m:Mod w w0 (aE b0 (.cells #[ap e] 26 (0,0))*(aE b1 (.cells #[.slice AE ne cE] 59 (0,0))*(aE b2 (.cells #[.slice BB nb cb] 67 (0,0))*o6 e p mp ak ej t hm A c v F)))) (rB:bk F BB nb (b7 (fy es))) (tab:fX F) :
 Calls Tryz.prog 29 #[ap b0,ap b1,ap b2] w fun en w'=>en=.returned (.tuple #[])/\∃(E:eN)(M J t1:Nat)(A1:Option Addr)(c1 g su:Nat),Fx v E (B+40) N ne g su/\E.k.files.length<=c1/\Mod w' w0 (aE b0 (.cells #[ap e] 26 (0,0))*(aE b1 (.cells #[.slice AE ne cE] 59 (0,0))*(aE b2 (.cells #[.slice BB nb cb] 67 (0,0))*Pb e p mp M J t1 hm A1 c1 E g su es F))):=by
 have HR:=zbj h;have aB:=zbj aj;have aJ:=zbj tab;have aV:=zbj rB;have bz:=zbj aG;have af:=zbj aL;have bq:=zbj ay;have aM:nb<=9952:=by have:=EI aG;omega
 obtain⟨z,hz⟩:∃z,ip v.T=z:=⟨_,rfl⟩;obtain⟨nT,av⟩:∃n,v.T.length=n:=⟨_,rfl⟩;have bu:nT<=1024:=by rw[<-av];exact h.small
 have au:Hid (∀(u:World)(X:ba),Mod u w0 (im t v.T*X)->Calls Tryz.prog 30 #[ap t] u fun en w'=>en=.returned (.int .i64 (z:Int))/\Mod w' w0 (im t v.T*X)):=fun u X mu=>by
  have h1:=Dq t v.T u w0 X mu;rw[hz]at h1;exact h1
 have az:Hid (∀(u:World)(X:ba),Mod u w0 (im t v.T*X)->Calls Tryz.prog 31 #[ap t] u fun en w'=>en=.returned (.int .i64 (nT:Int))/\Mod w' w0 (im t v.T*X)):=fun u X mu=>by
  have h1:=Ib t v.T u w0 X mu;rw[av]at h1;exact h1
 have HZ:=zbj (And.intro hz av);have bB:IntKind.i64.wrap ((nT:Int)+(ne:Int))=(nT:Int)+(ne:Int):=by rw[IntKind.wrap_i64];omega
 clear h aj tab rB aG aL ay hz av;go_enter Tryz.func29,Tryz.ntmps29
 go_wp2_with fail
 go_cut [19]from 3 (fun bn wx=>∃bb:Bool,bn=.bool bb/\Hid (bb=false->z<=512/\nT+ne<=1024)/\Hid (bb=true->512<z\/1024<nT+ne)/\Mod wx w0 (aE b0 (.cells #[ap e] 26 (0,0))*(aE b1 (.cells #[.slice AE ne cE] 59 (0,0))*(aE b2 (.cells #[.slice BB nb cb] 67 (0,0))*o6 e p mp ak ej t hm A c v F))))
 case first =>
  by_cases hz:512<z
  ·have bf:(512:Int)<(z:Int):=oMg
   refine wp_region_held_drew (S:=fun u=>u.cell? ⟨b0,0,none⟩=some (ap e)/\u.cell? ⟨e,3,none⟩=some (ap t)/\u.cell? ⟨b1,0,none⟩=some (.slice AE ne cE)) kRf (⟨Za,Za,Za⟩) (fun y=>?_);simp only[Zl,List.length_cons,List.length_nil,Nat.reduceAdd];obtain⟨W,Z⟩:∃W,W=w.drew:=⟨_,rfl⟩;have mW:Mod W w0 _:=Z▸Mod.drew (m:=m);rw[<-Z]at y ⊢;clear Z m;refine Tk.go [(0,some 3),(1,some 4),(2,some 5),(3,some 6)] ?_
   repeat (
    refine Tk.gS (v:=?_) rfl (Or.inl ⟨by rfl,?_⟩) y ?_ (fun _ _ _ h=>h);rotate_left 1
    ·(intro u I;(try dsimp only at I);obtain⟨O,U,V⟩:=I;go_simp;try with_reducible rfl)
    simp only[Act.put,Zb,Zc,Zd])
   refine Tk.stop (g7 4 (some 7) rfl rfl rfl fun K Y=>?_);go_simp
   refine(au.out _ _ (Mod.pull (m:=mW) (im t v.T))).mono ?_;rintro ex w1 ⟨rfl,m1⟩;clear mW;refine Y.out (.int .i64 (z:Int)) _ (⟨Za,Za,Za⟩) (fun y=>?_);clear Y K;simp only[Act.put,Zb,Zc,Zd];refine Tk.go [(5,some 8),(6,some 9),(7,some 10),(8,some 11),(9,some 12),(10,some 13),(11,some 14),(12,some 15),(13,some 16),(14,some 17),(15,some 18),(16,some 19)] ?_;refine Tk.gS (v:=?_) rfl (Or.inl ⟨by rfl,?_⟩) y ?_ (fun _ _ _ h=>h);rotate_left 1
   ·(intro u I;(try dsimp only at I);obtain⟨O,U,V⟩:=I;go_simp;try with_reducible rfl)
   simp only[Act.put,Zb,Zc,Zd];refine Tk.gS (v:=?_) rfl (Or.inl ⟨by rfl,?_⟩) y ?_ (fun _ _ _ h=>h);rotate_left 1
   ·(intro u I;(try dsimp only at I);obtain⟨O,U,V⟩:=I;go_simp;try with_reducible rfl)
   simp only[Act.put,Zb,Zc,Zd];refine Tk.gS (v:=undef) rfl (Or.inr ⟨by rfl,rfl⟩) y ?_ (fun _ _ _ h=>h);simp only[Act.put,Zb,Zc,Zd];refine Tk.gS (v:=undef) rfl (Or.inr ⟨by rfl,rfl⟩) y ?_ (fun _ _ _ h=>h);simp only[Act.put,Zb,Zc,Zd];refine Tk.gS (v:=undef) rfl (Or.inr ⟨by rfl,rfl⟩) y ?_ (fun _ _ _ h=>h);simp only[Act.put,Zb,Zc,Zd];refine Tk.gS (v:=undef) rfl (Or.inr ⟨by rfl,rfl⟩) y ?_ (fun _ _ _ h=>h);simp only[Act.put,Zb,Zc,Zd];refine Tk.gS (v:=undef) rfl (Or.inr ⟨by rfl,rfl⟩) y ?_ (fun _ _ _ h=>h);simp only[Act.put,Zb,Zc,Zd];refine Tk.gS (v:=undef) rfl (Or.inr ⟨by rfl,rfl⟩) y ?_ (fun _ _ _ h=>h);simp only[Act.put,Zb,Zc,Zd];refine Tk.gS (v:=undef) rfl (Or.inr ⟨by rfl,rfl⟩) y ?_ (fun _ _ _ h=>h);simp only[Act.put,Zb,Zc,Zd];refine Tk.gS (v:=undef) rfl (Or.inr ⟨by rfl,rfl⟩) y ?_ (fun _ _ _ h=>h);simp only[Act.put,Zb,Zc,Zd];refine Tk.gS (v:=undef) rfl (Or.inr ⟨by rfl,rfl⟩) y ?_ (fun _ _ _ h=>h);simp only[Act.put,Zb,Zc,Zd];refine Tk.gS (v:=?_) rfl (Or.inl ⟨by rfl,?_⟩) y ?_ (fun _ _ _ h=>h);rotate_left 1
   ·(intro u I;(try dsimp only at I);obtain⟨O,U,V⟩:=I;go_simp;try with_reducible rfl)
   simp only[Act.put,Zb,Zc,Zd];refine Tk.stop (mH ?_);clear y;go_wp2_with fail
   go_meet
   exact⟨true,rfl,(fun h=>by cases h),(fun _=>.inl hz),Mod.keep m1⟩
  ·have bf:¬(512:Int)<(z:Int):=oMg
   by_cases hl:1024<nT+ne
   ·have aX:(1024:Int)<(nT:Int)+(ne:Int):=oMg
    refine wp_region_held_drew (S:=fun u=>u.cell? ⟨b0,0,none⟩=some (ap e)/\u.cell? ⟨e,3,none⟩=some (ap t)/\u.cell? ⟨b1,0,none⟩=some (.slice AE ne cE)) kRf (⟨Za,Za,Za⟩) (fun y=>?_);simp only[Zl,List.length_cons,List.length_nil,Nat.reduceAdd];obtain⟨W,Z⟩:∃W,W=w.drew:=⟨_,rfl⟩;have mW:Mod W w0 _:=Z▸Mod.drew (m:=m);rw[<-Z]at y ⊢;clear Z m;refine Tk.go [(0,some 3),(1,some 4),(2,some 5),(3,some 6)] ?_
    repeat (
     refine Tk.gS (v:=?_) rfl (Or.inl ⟨by rfl,?_⟩) y ?_ (fun _ _ _ h=>h);rotate_left 1
     ·(intro u I;(try dsimp only at I);obtain⟨O,U,V⟩:=I;go_simp;try with_reducible rfl)
     simp only[Act.put,Zb,Zc,Zd])
    refine Tk.stop (g7 4 (some 7) rfl rfl rfl fun K Y=>?_);go_simp
    refine(au.out _ _ (Mod.pull (m:=mW) (im t v.T))).mono ?_;rintro ex w1 ⟨rfl,m1⟩;clear mW;refine Y.out (.int .i64 (z:Int)) _ (⟨Za,Za,Za⟩) (fun y=>?_);clear Y K;simp only[Act.put,Zb,Zc,Zd];refine Tk.go [(5,some 8),(6,some 9),(7,some 10),(8,some 11),(9,some 12),(10,some 13),(12,some 15),(13,some 16)] ?_
    repeat (
     refine Tk.gS (v:=?_) rfl (Or.inl ⟨by rfl,?_⟩) y ?_ (fun _ _ _ h=>h);rotate_left 1
     ·(intro u I;(try dsimp only at I);obtain⟨O,U,V⟩:=I;go_simp;try with_reducible rfl)
     simp only[Act.put,Zb,Zc,Zd])
    refine Tk.stop (Mk 11 (some 14) rfl rfl rfl fun K Y=>?_);go_simp
    refine(az.out _ _ (Mod.pull (m:=m1) (im t v.T))).mono ?_;rintro ex w2 ⟨rfl,m2⟩;clear m1;refine Y.out (.int .i64 (nT:Int)) _ (⟨Za,Za,Za⟩) (fun y=>?_);clear Y K;simp only[Act.put,Zb,Zc,Zd];refine Tk.go [(14,some 17),(15,some 18),(16,some 19)] ?_
    repeat (
     refine Tk.gS (v:=?_) rfl (Or.inl ⟨by rfl,?_⟩) y ?_ (fun _ _ _ h=>h);rotate_left 1
     ·(intro u I;(try dsimp only at I);obtain⟨O,U,V⟩:=I;go_simp;try with_reducible rfl)
     simp only[Act.put,Zb,Zc,Zd])
    refine Tk.stop (mH ?_);clear y;go_wp2_with fail
    go_meet
    exact⟨true,rfl,(fun h=>by cases h),(fun _=>.inr hl),Mod.keep m2⟩
   ·have aX:¬(1024:Int)<(nT:Int)+(ne:Int):=oMg
    refine wp_region_held_drew (S:=fun u=>u.cell? ⟨b0,0,none⟩=some (ap e)/\u.cell? ⟨e,3,none⟩=some (ap t)/\u.cell? ⟨b1,0,none⟩=some (.slice AE ne cE)) kRf (⟨Za,Za,Za⟩) (fun y=>?_);simp only[Zl,List.length_cons,List.length_nil,Nat.reduceAdd];obtain⟨W,Z⟩:∃W,W=w.drew:=⟨_,rfl⟩;have mW:Mod W w0 _:=Z▸Mod.drew (m:=m);rw[<-Z]at y ⊢;clear Z m;refine Tk.go [(0,some 3),(1,some 4),(2,some 5),(3,some 6)] ?_
    repeat (
     refine Tk.gS (v:=?_) rfl (Or.inl ⟨by rfl,?_⟩) y ?_ (fun _ _ _ h=>h);rotate_left 1
     ·(intro u I;(try dsimp only at I);obtain⟨O,U,V⟩:=I;go_simp;try with_reducible rfl)
     simp only[Act.put,Zb,Zc,Zd])
    refine Tk.stop (g7 4 (some 7) rfl rfl rfl fun K Y=>?_);go_simp
    refine(au.out _ _ (Mod.pull (m:=mW) (im t v.T))).mono ?_;rintro ex w1 ⟨rfl,m1⟩;clear mW;refine Y.out (.int .i64 (z:Int)) _ (⟨Za,Za,Za⟩) (fun y=>?_);clear Y K;simp only[Act.put,Zb,Zc,Zd];refine Tk.go [(5,some 8),(6,some 9),(7,some 10),(8,some 11),(9,some 12),(10,some 13),(12,some 15),(13,some 16)] ?_
    repeat (
     refine Tk.gS (v:=?_) rfl (Or.inl ⟨by rfl,?_⟩) y ?_ (fun _ _ _ h=>h);rotate_left 1
     ·(intro u I;(try dsimp only at I);obtain⟨O,U,V⟩:=I;go_simp;try with_reducible rfl)
     simp only[Act.put,Zb,Zc,Zd])
    refine Tk.stop (Mk 11 (some 14) rfl rfl rfl fun K Y=>?_);go_simp
    refine(az.out _ _ (Mod.pull (m:=m1) (im t v.T))).mono ?_;rintro ex w2 ⟨rfl,m2⟩;clear m1;refine Y.out (.int .i64 (nT:Int)) _ (⟨Za,Za,Za⟩) (fun y=>?_);clear Y K;simp only[Act.put,Zb,Zc,Zd];refine Tk.go [(14,some 17),(15,some 18),(16,some 19)] ?_
    repeat (
     refine Tk.gS (v:=?_) rfl (Or.inl ⟨by rfl,?_⟩) y ?_ (fun _ _ _ h=>h);rotate_left 1
     ·(intro u I;(try dsimp only at I);obtain⟨O,U,V⟩:=I;go_simp;try with_reducible rfl)
     simp only[Act.put,Zb,Zc,Zd])
    refine Tk.stop (mH ?_);clear y;go_wp2_with fail
    go_meet
    exact⟨false,rfl,(fun _=>by omega),(fun h=>by cases h),Mod.keep m2⟩
 case rest =>
  obtain⟨bb,rfl,aI,aD,m3⟩:=hcut;clear m au az;go_upto_if 19 with fail
  go_cut []from 20 (fun wx=>∃(E:eN)(M J t1:Nat)(A1:Option Addr)(c1:Nat),Hid (cv E (B+40) N 4)/\Hid (NC v E)/\Hid (E.T.length+ne<=1024)/\Hid (BK E N)/\Hid (ip v.T<=512->v.T.length+ne<=1024->E=v)/\E.k.files.length<=c1/\Mod wx w0 (aE b0 (.cells #[ap e] 26 (0,0))*(aE b1 (.cells #[.slice AE ne cE] 59 (0,0))*(aE b2 (.cells #[.slice BB nb cb] 67 (0,0))*o6 e p mp M J t1 hm A1 c1 E F))))
  case first =>
   cases bb
   ·go_wp2_with fail
    go_meet
    exact⟨v,ak,ej,t,A,c,HR.out.mono oMg (Zm _),⟨rfl,rfl,rfl,rfl⟩,by show _≤_;rw[HZ.out.2];exact(aI.out (by first | rfl | trivial)).2,aB.out,(fun _ _=>rfl),ax,m3⟩
   ·have ag:v.D.size=8388608/\N<=2300:=by
     rcases aB.out with r | ⟨_,_,r3,r4⟩
     ·exact r
     ·have h1:=HR.out.toEnCore.AK
      rw[HZ.out.1]at r4;rw[HZ.out.2]at h1;rcases aD.out (by first | rfl | trivial)with h2 | h2 <;> omega
    have HF:=zbj (fun(u:World)(X:ba)(mu:Mod u w0 (N0 e p mp ak (ap ej) t (.int .u64 (v.sure:Int)) hm A c v X))(hX:fX X)=>uv e p mp ak t hm (ap ej) (.int .u64 (v.sure:Int)) A c v B N HR.out.toEnCore (.inl ag) aY hB ax u w0 X mu hX);go_wp2_with (go_at_call 32;refine(HF.out _ (dt ej p (ez v.k.al) (al [] (v.ws.map fy)).length*(F*(aE b0 (.cells #[ap e] 26 (0,0))*(aE b1 (.cells #[.slice AE ne cE] 59 (0,0))*aE b2 (.cells #[.slice BB nb cb] 67 (0,0)))))) (Mod.keep m3) (aJ.out.lift zbk)).mono ?_;rintro ex w4 ⟨rfl,E,bg,J,t1,A1,c1,aN,aK,aF,m4⟩;(have ae:=zbj aN);(have aa:=zbj aK);clear aN aK)
    go_meet
    refine⟨E,bg,J,t1,A1,c1,ae.out,⟨aa.out.seq,aa.out.H,aa.out.W,aa.out.size⟩,by show _≤_;rw[aa.out.T];simp;omega,.inl ⟨aa.out.size.trans ag.1,ag.2⟩,(fun h1 h2=>by
     rw[HZ.out.1]at h1;rw[HZ.out.2]at h2
     rcases aD.out (by first | rfl | trivial)with h3 | h3 <;> omega),aF,Mod.keep m4⟩
  case rest =>
   obtain⟨E,M,J,t1,A1,c1,ae,aQ,aS,aT,aR,aF,m4⟩:=hcut;clear m3 aI aD aB HR HZ;have aH:cJ E.D:=p7 m4 (zbk:eM _ (bv p) E.D _);have ai:E.k.al<4294967296:=ae.out.disk.man.know.al;have ah:=ae.out.fits aH oMg aT.out (r:=fy es) (by rw[af.out];exact aM);obtain⟨su,⟨g,hg,hf⟩,aO⟩:=ae.out.Bq
   have aP:Hid (∀(u:World),Mod u w0 (bv p E.D*(dt J p (ez E.k.al) (al [] (E.ws.map fy)).length*(F*(aE b0 (.cells #[ap e] 26 (0,0))*(aE b1 (.cells #[.slice AE ne cE] 59 (0,0))*(aE b2 (.cells #[.slice BB nb cb] 67 (0,0))*(gA mp p (ap M) E.num E.xs.length (.slice A1 E.k.files.length E.k.files.length) E.k.nums*(dt M p (cD E.num) (al [] (cf E.xs)).length*(kJ A1 c1 E.k.files*(jT e p (ap mp) (ap J) (ap t1) (.int .u64 (E.seq:Int)) (.int .u64 (E.sure:Int)) (.map (some hm))*(im t1 E.T*U64.gv hm (g6 E.H))))))))))))->Calls Tryz.prog 33 #[ap J,.slice BB nb cb] u fun en w'=>en=.returned (.int .i64 0)/\Mod w' w0 (bv p {E.D with files:=iS E.D.files g ⟨al [] ((E.ws++[es]).map fy),su⟩}*(dt J p (ez E.k.al) (al [] ((E.ws++[es]).map fy)).length*(F*(aE b0 (.cells #[ap e] 26 (0,0))*(aE b1 (.cells #[.slice AE ne cE] 59 (0,0))*(aE b2 (.cells #[.slice BB nb cb] 67 (0,0))*(gA mp p (ap M) E.num E.xs.length (.slice A1 E.k.files.length E.k.files.length) E.k.nums*(dt M p (cD E.num) (al [] (cf E.xs)).length*(kJ A1 c1 E.k.files*(jT e p (ap mp) (ap J) (ap t1) (.int .u64 (E.seq:Int)) (.int .u64 (E.sure:Int)) (.map (some hm))*(im t1 E.T*U64.gv hm (g6 E.H))))))))))))):=fun u mu=>by
    have h1:=K8 J p E.D (ez E.k.al) u w0 _ BB cb (fy es) g ⟨al [] (E.ws.map fy),su⟩ (uy ai) (vF ai) hg hf mu (by rw[af.out];exact ct zbk aV.out) (by rw[af.out];exact aW) (by rw[af.out];omega) ah.1 ah.2;rw[af.out]at h1;have e1:al [] ((E.ws++[es]).map fy)=al [] (E.ws.map fy)++fz (al [] (E.ws.map fy)).length true (fy es):=by rw[ZP,Zy,Ye,mP]
    rw[e1];exact h1
   have aU:Hid (Fx v E (B+40) N ne g su):=⟨ae.out,aQ.out,aS.out,hg,hf,aO,aR.out,aH⟩;clear hg hf aO ah aH ai;go_wp2_with fail
   refine wp_region_held_drew (S:=fun u=>u.cell? ⟨b0,0,none⟩=some (ap e)/\u.cell? ⟨e,2,none⟩=some (ap J)/\u.cell? ⟨b2,0,none⟩=some (.slice BB nb cb)) kRf (⟨Za,Za,Za⟩) (fun y=>?_);simp only[Zl,List.length_cons,List.length_nil,Nat.reduceAdd];obtain⟨W,Z⟩:∃W,W=wc.drew:=⟨_,rfl⟩;have mW:Mod W w0 _:=Z▸Mod.drew (m:=m4);rw[<-Z]at y ⊢;clear Z m4;refine Tk.go [(0,some 22),(1,some 23),(2,some 24),(3,some 25),(4,some 26)] ?_
   repeat (
    refine Tk.gS (v:=?_) rfl (Or.inl ⟨by rfl,?_⟩) y ?_ (fun _ _ _ h=>h);rotate_left 1
    ·(intro u I;(try dsimp only at I);obtain⟨O,U,V⟩:=I;go_simp;try with_reducible rfl)
    simp only[Act.put,Zb,Zc,Zd])
   refine Tk.stop (g7 5 (some 27) rfl rfl rfl fun K Y=>?_);go_simp
   refine(aP.out _ (Mod.keep mW)).mono ?_;rintro ex w5 ⟨rfl,m5⟩;clear mW;refine Y.out (.int .i64 0) _ (⟨Za,Za,Za⟩) (fun y=>?_);clear Y K;simp only[Act.put,Zb,Zc,Zd];refine Tk.go [(6,some 28)] ?_
   repeat (
    refine Tk.gS (v:=?_) rfl (Or.inl ⟨by rfl,?_⟩) y ?_ (fun _ _ _ h=>h);rotate_left 1
    ·(intro u I;(try dsimp only at I);obtain⟨O,U,V⟩:=I;go_simp;try with_reducible rfl)
    simp only[Act.put,Zb,Zc,Zd])
   refine Tk.stop (mH ?_);clear y;go_wp2_with fail
   go_end0
   exact⟨rfl,E,M,J,t1,A1,c1,g,su,aU.out,aF,Mod.keep m5⟩
theorem Bg (x:lc)(w w0:World)(S:ba)(m:Mod w w0 S):Calls Tryz.prog 24 #[.agg #[.string x.key,.string x.value,.bool x.gone]] w fun e I=>e=.returned (.bool (!sw x))/\Mod I w0 S:=by
 have y:=zbj (fun(u:World)(G:ba)(E:Mod u w0 G)=>PS x u w0 G E);obtain⟨b,z⟩:∃b,sw x=b:=⟨_,rfl⟩;rw[z]at y ⊢;clear z;obtain⟨k,v,g⟩:=x;simp only at y;cases b
 all_goals
  go_enter Tryz.func24,Tryz.ntmps24
  go_wp2_with (go_at_call 25;refine(y.out _ _ (zbk:Mod _ w0 _)).mono ?_;rintro e w1 ⟨rfl,B⟩)
  go_ret
  exact⟨by first | rfl | simp,Mod.sub S (m:=B)⟩
def oA (l:List lc):Bool:=l.any fun x => !sw x
theorem vg (A':Option Addr)(n c:Nat)(l:List lc)(w w0:World)(S:ba)(m:Mod w w0 S)(r:ia S A' n l)(hn:n<=1000000000) :
 Calls Tryz.prog 23 #[.slice A' n c,.func (.func 24) #[] #[]] w fun e B=>e=.returned (.bool (oA l))/\Mod B w0 S:=by
 have h:=gJ 24 #[] (fun x => !sw x) A' n c l w w0 S m r hn (enters_of Tryz.func24 kRf rfl) fun x u z=>by
  have y:=Bg x u w0 S z;simpa using y
 exact h
theorem xq (e p:Nat)(v:eN)(A':Option Addr)(n c':Nat)(l:List lc)(w w0:World)(F:ba)(h:eV e p v w0 F w)(Z:ia F A' n l)(hn:n<=1000000000)(y:n<1\/32<n\/oA l=true):Calls Tryz.prog 8 #[ap e,.slice A' n c'] w fun en V=>en=.returned (.tuple #[.int .u64 0,.int .i64 1])/\eV e p v w0 F V:=by
 obtain⟨I,z,B,t,E,A,c,U,m⟩:=h;have J:Hid (∀(u:World)(G:ba),Sub G F->Mod u w0 G->Calls Tryz.prog 23 #[.slice A' n c',.func (.func 24) #[] #[]] u fun e V=>e=.returned (.bool (oA l))/\Mod V w0 G):=fun u G hG mu=>vg A' n c' l u w0 G mu (Z.lift hG) hn;clear Z;by_cases h1:n<1
 ·have M:(n:Int)<1:=oMg
  go_enter Tryz.func8,Tryz.ntmps8
  go_wp2_with (go_at_call 22;refine(hU e (ap p) (ap B) (ap t) (.int .u64 (v.seq:Int)) (.int .u64 (v.sure:Int)) (.map (some E)) I _ w0 _ (zbk:Mod _ w0 _) zbk).mono ?_;rintro ex w1 ⟨rfl,K⟩)
  go_ret2
  exact⟨rfl,I,z,B,t,E,A,c,U,Mod.keep K⟩
 ·have M:¬(n:Int)<1:=oMg
  by_cases h2:32<n
  ·have O:(32:Int)<(n:Int):=oMg
   go_enter Tryz.func8,Tryz.ntmps8
   go_wp2_with (go_at_call 22;refine(hU e (ap p) (ap B) (ap t) (.int .u64 (v.seq:Int)) (.int .u64 (v.sure:Int)) (.map (some E)) I _ w0 _ (zbk:Mod _ w0 _) zbk).mono ?_;rintro ex w1 ⟨rfl,K⟩)
   go_ret2
   exact⟨rfl,I,z,B,t,E,A,c,U,Mod.keep K⟩
  ·have O:¬(32:Int)<(n:Int):=oMg
   have Y:oA l=true:=by
    rcases y with h | h | h
    ·exact absurd h h1
    ·exact absurd h h2
    ·exact h
   rw[Y]at J;clear y Y;go_enter Tryz.func8,Tryz.ntmps8
   go_wp2_with (go_at_call 22;refine(hU e (ap p) (ap B) (ap t) (.int .u64 (v.seq:Int)) (.int .u64 (v.sure:Int)) (.map (some E)) I _ w0 _ (zbk:Mod _ w0 _) zbk).mono ?_;rintro ex w1 ⟨rfl,K⟩;refine Hid.out ?_)
   refine zbj ?_;go_wp2_with (go_at_call 23;refine(J.out _ _ zbk K).mono ?_;rintro ex w2 ⟨rfl,m2⟩)
   go_ret2
   exact⟨rfl,I,z,B,t,E,A,c,U,Mod.keep m2⟩
structure ND (v v':eN)(es:List ao):Prop where
 seq:v'.seq=v.seq+1
 H:v'.H=v.H
 W:v'.W=v.W++es
 size:v'.D.size=v.D.size
 still:ip v.T<=512->v.T.length+es.length<=1024->v'.T=jd v.T es/\v'.xs=v.xs
theorem Ee (T y:List ao)(x:ao):jd T (y++[x])=oN x (jd T y):=by unfold jd;rw[Xg];rfl
theorem G7 {l y:List ao}(h:l.Perm y):ip l=ip y:=by unfold ip;exact(h.map _).sum_nat
theorem EZ:∀{l:List ao},(∀x∈l,fS x)->ip l<=288*l.length
 | [],_=>by simp[ip]
 | x::l,h=>by
   have z:=h x (Zj ..);have B:=EZ (l:=l) fun y E=>h y (Zh _ E);have I:=z.size;have J:=z.value;unfold ip at B ⊢;rw[Zy,List.sum_cons,List.length_cons];omega
theorem gG (e p:Nat)(v:eN)(B N:Nat)(A':Option Addr)(n c':Nat)(l:List lc)(w w0:World)(F:ba)(h:eV e p v w0 F w)(hr:cv v B N 4)(ay:BK v N)(bR:v.D.size=8388608->gF\/v.k.files=[])(hB:B+64<=1000000)(rl:ia F A' n l)(bS:1<=n)(bE:n<=32)(bC:n<=c')(ae:oA l=false)(tab:fX F)(bz:qf F) :
 Calls Tryz.prog 8 #[ap e,.slice A' n c'] w fun en w'=>en=.returned (.tuple #[.int .u64 ((v.seq+1:Nat):Int),.int .i64 0])/\∃v',cv v' (B+64) (N+(dp (v.seq+1) l).length) 4/\ND v v' (dp (v.seq+1) l)/\eV e p v' w0 F w':=by
 obtain⟨mp,aV,ej,t,hm,A,c,hc,m⟩:=h;have HR:=zbj hr;have aL:=zbj ay;have bq:=zbj tab;have aZ:=zbj bz;have cu:=hr.seq
 have aY:Hid (∀(u:World)(G:ba),Sub G F->Mod u w0 G->Calls Tryz.prog 23 #[.slice A' n c',.func (.func 24) #[] #[]] u fun e w'=>e=.returned (.bool false)/\Mod w' w0 G):=fun u G hG mu=>by
  have h1:=vg A' n c' l u w0 G mu (rl.lift hG) oMg;rw[ae]at h1;exact h1
 have aH:∀x∈l,sw x=true:=fun x hx=>by
  have:=Y3.1 ae x hx;simpa using this
 obtain⟨z,aa⟩:∃z,dp (v.seq+1) l=z:=⟨_,rfl⟩;have az:l.length=n:=rl.len;have aI:z≠[]:=by rw[<-aa];exact Jn (fun e0=>by rw[e0]at az;simp at az;omega)
 have aF:∀x∈z,fS x:=by rw[<-aa];exact Jo oMg aH
 have aG:∀x∈z,fS x/\x.seq=v.seq+1:=fun x hx=>⟨aF x hx,by rw[<-aa]at hx;exact(nB hx).1⟩;have au:z.Pairwise fun a b=>a.key≠b.key:=by rw[<-aa];exact sI _ _
 obtain⟨ne,aB⟩:∃n,z.length=n:=⟨_,rfl⟩;have aU:ne<=32:=by have:=nA (v.seq+1) l;rw[aa,aB,az]at this;omega
 have bf:Hid (∀(u:World)(G:ba),Sub G F->Mod u w0 G->Calls Tryz.prog 26 #[.slice A' n c',.int .u64 ((v.seq+1:Nat):Int)] u fun en w'=>∃J M,en=.returned (.slice J ne M)/\Mod w' w0 (ar 71 4 (.slice J ne M) ne (z.flatMap ao.cells)*G)):=fun u G hG mu=>by
  have h1:=CZ A' n c' (v.seq+1) l oMg u w0 G mu (rl.lift hG) oMg bC;rw[aa,aB]at h1;exact h1
 rw[aa];have aj:=zbj aG;have U:=zbj aB;have ak:=zbj au;have bg:=zbj aI;have bY:¬(n:Int)<1:=oMg
 have bZ:¬(32:Int)<(n:Int):=oMg
 have dh:IntKind.u64.wrap ((v.seq:Int)+1)=((v.seq+1:Nat):Int):=by rw[IntKind.wrap_u64];omega
 clear hr ay tab bz rl ae aH aa aI aF aG au aB az bS bE bC;go_enter Tryz.func8,Tryz.ntmps8
 go_upto_region 1 with fail
 obtain⟨b0,aN⟩:∃x,w.heap.size=x:=⟨_,rfl⟩;have m1:Mod (w.alloc (.cells #[ap e] 26)) w0 (aE b0 (.cells #[ap e] 26 (0,0))*_):=Mod.alloc (m:=m) (hn:=⟨aN⟩) _;rw[aN];generalize w.alloc (.cells #[ap e] 26)=w1 at *;clear aN m;go_wp2_with (go_at_call 22;refine(hU e (ap p) (ap ej) (ap t) (.int .u64 (v.seq:Int)) (.int .u64 (v.sure:Int)) (.map (some hm)) mp _ w0 _ m1 zbk).mono ?_;rintro ex w2 ⟨rfl,m2⟩;refine Hid.out ?_)
 refine zbj ?_;clear m1;go_wp2_with (go_at_call 23;refine(aY.out _ _ zbk m2).mono ?_;rintro ex w3 ⟨rfl,m3⟩;refine Hid.out ?_)
 refine zbj ?_;clear m2;go_wp2_with (go_at_call 26;refine(bf.out _ _ zbk m3).mono ?_;rintro ex w4 ⟨J,M,rfl,m4⟩;refine Hid.out ?_)
 refine zbj ?_;clear m3 aY bf;go_upto_region 6 with fail
 obtain⟨b1,aO⟩:∃x,w4.heap.size=x:=⟨_,rfl⟩;have m5:Mod (w4.alloc (.cells #[.slice J ne M] 59)) w0 (aE b1 (.cells #[.slice J ne M] 59 (0,0))*_):=Mod.alloc (m:=m4) (hn:=⟨aO⟩) _;rw[aO];generalize w4.alloc (.cells #[.slice J ne M] 59)=w5 at *;clear aO m4;go_upto_region 7 with fail
 obtain⟨b2,aP⟩:∃x,w5.heap.size=x:=⟨_,rfl⟩;have m6:Mod (w5.alloc (.cells #[.slice none 0 0] 67)) w0 (aE b2 (.cells #[.slice none 0 0] 67 (0,0))*_):=Mod.alloc (m:=m5) (hn:=⟨aP⟩) _;rw[aP];generalize w5.alloc (.cells #[.slice none 0 0] 67)=w6 at *;clear aP m5;have m7:=ey (e:=5) (size:=1) m6;clear m6;go_wp2_with fail
 go_loopg [39] ne (fun gk bU wr=>∃(i q cb:Nat)(BB:Option Addr),i<=ne/\gk=ne-i/\bU=.int .i64 (i:Int)/\q<=311*i/\Hid ((fy (z.take i)).length=q)/\Mod wr w0 (aE b0 (.cells #[ap e] 26 (0,0))*(aE b1 (.cells #[.slice J ne M] 59 (0,0))*(aE b2 (.cells #[.slice BB q cb] 67 (0,0))*(ar 5 1 (.slice BB q cb) q (b7 (fy (z.take i)))*(ar 71 4 (.slice J ne M) ne (z.flatMap ao.cells)*o6 e p mp aV ej t hm A c v F))))))
 case atStart=>exact⟨0,0,0,none,Zv _,rfl,rfl,oMg,rfl,by rw[show b7 (fy (z.take 0))=[]from rfl];exact Mod.keep m7⟩
 case round =>
  obtain⟨i,q,cb,BB,hi,bO,rfl,hq,Hq,m8⟩:=hrel;clear m7;by_cases af:i<ne
  ·have av:(i:Int)<(ne:Int):=oMg
   have V:i<z.length:=by rw[U.out];exact af
   have rE:bp (ar 71 4 (.slice J ne M) ne (z.flatMap ao.cells)) J ne z:=⟨U.out,fh (by decide)⟩;obtain⟨b,o,rfl⟩:∃b o,J=some ⟨b,o,none⟩:=gw (Mod.pull (m:=m8) (ar 71 4 (.slice J ne M) ne (z.flatMap ao.cells))) (rE.lift zbk) af;obtain⟨k0,k1,k2,k3⟩:=jc rE V;have Y:=aj.out _ (Zq V);have aM:Hid (z.take (i+1)=z.take i++[z[i]]):=Zx V;generalize z[i]=x at *;clear rE V
   have bn:Hid (∀(u:World)(G:ba),Mod u w0 G->bk G BB q (b7 (fy (z.take i)))->Calls Tryz.prog 27 #[.slice BB q cb,.agg #[.string x.key,.int .u64 (x.seq:Int),.bool x.gone,.string x.value]] u fun en w'=>∃A2 c2,en=.returned (.slice A2 (q+(jz x).length) c2)/\Mod w' w0 (ar 5 1 (.slice A2 (q+(jz x).length) c2) (q+(jz x).length) (b7 (fy (z.take i)++jz x))*G)):=fun u G mu hr =>
    wR BB q cb (fy (z.take i)) x ⟨by have:=Y.1.size;omega,by have:=Y.1.value;omega,Y.1.seq⟩ u w0 G mu hr oMg
   have bQ:=ze Y.1;obtain⟨lx,ax⟩:∃n,(jz x).length=n:=⟨_,rfl⟩;rw[ax]at bn bQ;have bK:=zbj ax;clear Y ax;obtain⟨xk,xs,xg,xv⟩:=x;go_wp2_with (go_at_call 27;refine(bn.out _ _ (Mod.alloc (m:=m8) _) zbk).mono ?_;rintro ex w9 ⟨A2,c2,rfl,m9⟩)
   go_roundg (ne-(i+1))
   case measure=>omega
   case rel =>
    have er:fy (z.take (i+1))=fy (z.take i)++jz ⟨xk,xs,xg,xv⟩:=by rw[aM.out];unfold fy;rw[Z4,Zp,Yv,ZH]
    refine⟨i+1,q+lx,c2,A2,af,rfl,by go_num,oMg,by show _=_;rw[er,Ze,Hq.out,bK.out],?_⟩;rw[er];have mm:Mod (w9.setCell ⟨b2,0,none⟩ (.slice A2 (q+lx) c2)) w0 _:=zbk;simp only[Zb,Zc]at mm;exact Mod.keep mm
  ·have aS:i=ne:=oMg
   subst aS;have av:¬(i:Int)<(i:Int):=oMg
   have aD:z.take i=z:=Zn (by rw[U.out];exact Zm _);rw[aD]at m8 Hq;clear aD;rw[show i-i=0 from zae i]at bO;generalize i=ne at *;have m9:Mod wr w0 (aE b0 (.cells #[ap e] 26 (0,0))*(aE b1 (.cells #[.slice J ne M] 59 (0,0))*(aE b2 (.cells #[.slice BB q cb] 67 (0,0))*(o6 e p mp aV ej t hm A c v (ar 5 1 (.slice BB q cb) q (b7 (fy z))*(ar 71 4 (.slice J ne M) ne (z.flatMap ao.cells)*F)))))):=Mod.keep m8;clear m8;have bN:q<=cb:=rL (m:=Mod.pull (m:=m9) (ar 5 1 (.slice BB q cb) q (b7 (fy z))))
   have bu:=zbj (r8 (α:=eN×Nat×Nat×Nat×Option Addr×Nat×Nat×Nat) 29 #[ap b0,ap b1,ap b2] (fun a=>Fx v a.1 (B+40) N ne a.2.2.2.2.2.2.1 a.2.2.2.2.2.2.2/\a.1.k.files.length<=a.2.2.2.2.2.1) (fun a=>aE b0 (.cells #[ap e] 26 (0,0))*(aE b1 (.cells #[.slice J ne M] 59 (0,0))*(aE b2 (.cells #[.slice BB q cb] 67 (0,0))*(Pb e p mp a.2.1 a.2.2.1 a.2.2.2.1 hm a.2.2.2.2.1 a.2.2.2.2.2.1 a.1 a.2.2.2.2.2.2.1 a.2.2.2.2.2.2.2 z (ar 5 1 (.slice BB q cb) q (b7 (fy z))*(ar 71 4 (.slice J ne M) ne (z.flatMap ao.cells)*F)))))) wr w0 _ m9 (enters_of Tryz.func29 kRf rfl) (fun G u mu=>by
    refine(Bh e p b0 b1 b2 mp aV ej t hm A c v B N z J ne M BB q cb HR.out aL.out bR oMg hc U.out aU (fun x hx=>(aj.out x hx).1) Hq.out bN u w0 ((ar 5 1 (.slice BB q cb) q (b7 (fy z))*(ar 71 4 (.slice J ne M) ne (z.flatMap ao.cells)*F))*G) (Mod.keep mu) zbk (bq.out.lift zbk)).mono ?_;rintro en w' ⟨rfl,E,ah,Z,t1,A1,c1,g,su,h1,h2,m2⟩
    exact⟨rfl,(E,ah,Z,t1,A1,c1,g,su),⟨h1,h2⟩,Mod.keep m2⟩))
   go_wp2_with (go_at_call 28;refine bu.out.mono ?_;rintro ex aX ⟨rfl,⟨E,ah,Z,t1,A1,c1,g,su⟩,⟨bB,aQ⟩,bI⟩;(have I:=zbj bB);clear bB;refine Hid.out ?_)
   refine zbj ?_;clear m9 bu;have bT:Mod aX w0 (aE b0 (.cells #[ap e] 26 (0,0))*(aE b1 (.cells #[.slice J ne M] 59 (0,0))*(aE b2 (.cells #[.slice BB q cb] 67 (0,0))*(Pb e p mp ah Z t1 hm A1 c1 E g su z (ar 5 1 (.slice BB q cb) q (b7 (fy z))*(ar 71 4 (.slice J ne M) ne (z.flatMap ao.cells)*F)))))):=bI;clear bI;have aQ:E.k.files.length<=c1:=aQ;have aK:E.seq=v.seq:=I.out.same.seq;have di:IntKind.u64.wrap ((E.seq:Int)+1)=((E.seq+1:Nat):Int):=by rw[IntKind.wrap_u64];omega
   have ag:=zbj aK;clear aK;go_upto_region 16 with fail
   have aW:Mod (aX.setCell ⟨e,4,none⟩ (.int .u64 ((E.seq:Int)+1))) w0 _:=zbk;simp only[Zb,Zc,Zd]at aW;generalize aX.setCell ⟨e,4,none⟩ (.int .u64 ((E.seq:Int)+1))=bW at *;clear bT;go_wp2_with fail
   have bJ:Mod bW w0 (aE b0 (.cells #[ap e] 26 (0,0))*(aE b1 (.cells #[.slice J ne M] 59 (0,0))*(fL mp p ah E.num E.xs.length A1 c1 E.k {E.D with files:=iS E.D.files g ⟨al [] ((E.ws++[z]).map fy),su⟩} (al [] (cf E.xs)).length (jT e p (ap mp) (ap Z) (ap t1) (.int .u64 ((E.seq:Int)+1)) (.int .u64 (E.sure:Int)) (.map (some hm))*(im t1 (jd E.T (z.take 0))*(U64.gv hm (g6 E.H)*(dt Z p (ez E.k.al) (al [] ((E.ws++[z]).map fy)).length*(ar 71 4 (.slice J ne M) ne (z.flatMap ao.cells)*F)))))))):=by
    have e0:jd E.T (z.take 0)=E.T:=rfl;rw[e0];exact Mod.keep aW
   clear aW;go_loopg [60] ne (fun gk bV wr=>∃i:Nat,i<=ne/\gk=ne-i/\bV=.int .i64 (i:Int)/\Mod wr w0 (aE b0 (.cells #[ap e] 26 (0,0))*(aE b1 (.cells #[.slice J ne M] 59 (0,0))*(fL mp p ah E.num E.xs.length A1 c1 E.k {E.D with files:=iS E.D.files g ⟨al [] ((E.ws++[z]).map fy),su⟩} (al [] (cf E.xs)).length (jT e p (ap mp) (ap Z) (ap t1) (.int .u64 ((E.seq:Int)+1)) (.int .u64 (E.sure:Int)) (.map (some hm))*(im t1 (jd E.T (z.take i))*(U64.gv hm (g6 E.H)*(dt Z p (ez E.k.al) (al [] ((E.ws++[z]).map fy)).length*(ar 71 4 (.slice J ne M) ne (z.flatMap ao.cells)*F)))))))))
   case atStart=>exact⟨0,Zv _,rfl,rfl,bJ⟩
   case round =>
    obtain⟨i,hi,bX,rfl,ai⟩:=hrel;clear bJ;by_cases af:i<ne
    ·have av:(i:Int)<(ne:Int):=oMg
     have V:i<z.length:=by rw[U.out];exact af
     have rE:bp (ar 71 4 (.slice J ne M) ne (z.flatMap ao.cells)) J ne z:=⟨U.out,fh (by decide)⟩;obtain⟨b,o,rfl⟩:∃b o,J=some ⟨b,o,none⟩:=gw (Mod.pull (m:=ai) (ar 71 4 (.slice J ne M) ne (z.flatMap ao.cells))) (rE.lift zbk) af;obtain⟨k0,k1,k2,k3⟩:=jc rE V;have Y:=aj.out _ (Zq V);have aM:Hid (z.take (i+1)=z.take i++[z[i]]):=Zx V
     have aT:(jd E.T (z.take i)).length<=1024:=by
      rw[(kD _ _).length_eq,Ze,Zt,U.out];have:=I.out.small;omega
     have aJ:∀y∈jd E.T (z.take i),¬eW y z[i]:=fun y hy hs=>by
      rcases ZA.1 ((kD _ _).mem_iff.1 hy)with hy | hy
      ·have h1:=(I.out.rest.toEnCore.ok y (ZN _ hy)).2
       have h2:=hs.2.1;rw[Y.2]at h2;have:=ag.out;omega
      ·obtain⟨j,hj,rfl⟩:=ZI.1 hy
       have bP:j<i:=by rw[Zt]at hj;omega
       rw[YU]at hs;exact Z0.1 ak.out j i oMg V bP hs.1
     have bH:ip (jd E.T (z.take i))<=1000000000000:=by
      have h1:∀y∈jd E.T (z.take i),fS y:=fun y hy=>by
       rcases ZA.1 ((kD _ _).mem_iff.1 hy)with hy | hy
       ·exact I.out.rest.toEnCore.okT y hy
       ·exact(aj.out y ((za4 _ _).subset hy)).1
      have h2:=EZ h1;omega
     have bM:Hid (∀(u:World)(G:ba),Sub G F->Mod u w0 G->Calls Tryz.prog 36 #[.agg #[.string z[i].key,.int .u64 (z[i].seq:Int),.bool z[i].gone,.string z[i].value]] u fun en w'=>(∃k:Nat,en=.returned (.int .i64 (k:Int))/\1<=k/\k<=8)/\Mod w' w0 G):=fun u G hG mu=>KM z[i] Y.1 u w0 G mu (aZ.out.lift hG);have bL:Hid (∀(tl:Nat)(_:1<=tl)(_:tl<=8)(u:World)(G:ba),Mod u w0 (im t1 (jd E.T (z.take i))*G)->Calls Tryz.prog 35 #[ap t1,.agg #[.string z[i].key,.int .u64 (z[i].seq:Int),.bool z[i].gone,.string z[i].value],.int .i64 (tl:Int)] u fun en w'=>en=.returned (.int .i64 0)/\Mod w' w0 (im t1 (oN z[i] (jd E.T (z.take i)))*G)):=fun tl h1 h8 u G mu=>Ie t1 _ z[i] tl Y.1 h1 h8 oMg aJ bH u w0 G mu;clear aT aJ bH Y;generalize z[i]=x at *;clear rE V;obtain⟨xk,xs,xg,xv⟩:=x;go_upto_region 19 with fail
     obtain⟨gx,aR⟩:∃x,wr.heap.size=x:=⟨_,rfl⟩;have m8:Mod (wr.alloc (.cells #[.string xk,.int .u64 (xs:Int),.bool xg,.string xv] 71)) w0 (aE gx (.cells #[.string xk,.int .u64 (xs:Int),.bool xg,.string xv] 71 (0,0))*_):=Mod.alloc (m:=ai) (hn:=⟨aR⟩) _;rw[aR];generalize wr.alloc (.cells #[.string xk,.int .u64 (xs:Int),.bool xg,.string xv] 71)=w8 at *;clear aR ai k0 k1 k2 k3;refine wp_region_held_drew (S:=fun u=>u.cell? ⟨b0,0,none⟩=some (ap e)/\u.cell? ⟨e,3,none⟩=some (ap t1)/\u.cell? ⟨gx,0,none⟩=some (.string xk)/\u.cell? ⟨gx,1,none⟩=some (.int .u64 (xs:Int))/\u.cell? ⟨gx,2,none⟩=some (.bool xg)/\u.cell? ⟨gx,3,none⟩=some (.string xv)) kRf (⟨Za,Za,Za,Za,Za,Za⟩) (fun O=>?_);simp only[Zl,List.length_cons,List.length_nil,Nat.reduceAdd];obtain⟨W,hW⟩:∃W,W=w8.drew:=⟨_,rfl⟩;have mW:Mod W w0 _:=hW▸Mod.drew (m:=m8);rw[<-hW]at O ⊢;clear hW m8;refine Tk.go [(0,some 64),(1,some 65),(2,some 66),(3,some 67),(4,some 68),(5,some 69)] ?_
     repeat (
      refine Tk.gS (v:=?_) rfl (Or.inl ⟨by rfl,?_⟩) O ?_ (fun _ _ _ h=>h);rotate_left 1
      ·(intro u hu;(try dsimp only at hu);obtain⟨cz,cB,cK,cO,cZ,df⟩:=hu;go_simp;try with_reducible rfl)
      simp only[Act.put,Zb,Zc,Zd])
     refine Tk.stop (g7 6 (some 70) rfl rfl rfl fun K hK=>?_);go_simp
     refine(bM.out _ _ zbk mW).mono ?_;rintro ex wt ⟨⟨tl,rfl,bF,bG⟩,mt⟩;clear mW;refine hK.out (.int .i64 (tl:Int)) _ (⟨Za,Za,Za,Za,Za,Za⟩) (fun O=>?_);clear hK K;simp only[Act.put,Zb,Zc,Zd];refine(g7 7 (some 71) rfl rfl rfl fun K hK=>?_);go_simp
     refine(bL.out tl bF bG _ _ (Mod.pull (m:=mt) (im t1 (jd E.T (z.take i))))).mono ?_;rintro ex w9 ⟨rfl,m9⟩;clear mt;refine hK.out (.int .i64 0) _ (⟨Za,Za,Za,Za,Za,Za⟩) (fun O=>?_);clear hK K;simp only[Act.put,Zb,Zc,Zd];refine mH ?_;clear O;go_wp2_with fail
     go_roundg (ne-(i+1))
     case measure=>omega
     case rel=>exact⟨i+1,af,rfl,by go_num,by rw[aM.out,Ee];exact Mod.keep m9⟩
    ·have aS:i=ne:=oMg
     subst aS;have av:¬(i:Int)<(i:Int):=oMg
     have aD:z.take i=z:=Zn (by rw[U.out];exact Zm _);rw[aD]at ai;go_wp2_with fail
     go_ret2
     have bD:=I.out.rest.written I.out.ok I.out.name I.out.file I.out.sure bg.out (fun x hx=>by rw[ag.out];exact aj.out x hx) ak.out (by rw[U.out];exact I.out.small);have e2:(E.seq:Int)+1=((E.seq+1:Nat):Int):=oMg
     rw[e2]at ai;refine⟨by rw[<-ag.out];first | rfl | simp,E.written g su z,bD.mono oMg (Zm _),⟨by show E.seq+1=_;rw[ag.out],I.out.same.H,by show E.W++z=_;rw[I.out.same.W],I.out.same.size,fun h1 h2=>?_⟩,mp,ah,Z,t1,hm,A1,c1,aQ,Mod.keep ai⟩;have h3:=I.out.still h1 (by rw[<-U.out];exact h2);rw[<-h3];exact⟨rfl,rfl⟩
end Go.Proofs.YtdfppjcaelghhaaGreatDoor
