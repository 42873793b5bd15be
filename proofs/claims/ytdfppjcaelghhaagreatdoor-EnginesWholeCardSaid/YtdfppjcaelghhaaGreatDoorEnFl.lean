/- Plain lemmas and contracts; the conditions are in each. -/
import Derived.Test.YtdfppjcaelghhaaGreatDoorEnMg
set_option maxRecDepth 8000
set_option maxHeartbeats 16000000
namespace Go.Proofs.YtdfppjcaelghhaaGreatDoor
open Go.RowKit Go.Sl
attribute [local go_sem] ab bj bh bd
theorem lR {w w0:World}{S T:ba} [m:Mod w w0 S](h:Mod w w0 S->Mod w w0 T):Mod w w0 T:=h m
structure ym (v v':eN):Prop where
 T:v'.T=[]
 ws:v'.ws=[]
 seq:v'.seq=v.seq
 sure:v'.sure=v.seq
 H:v'.H=v.H
 W:v'.W=v.W
 size:v'.D.size=v.D.size
 xs:v.D.size≠8388608->(al [] (cf v'.xs)).length<=25000
theorem uv (e p I Y t U:Nat)(x2 x5:Value)(A:Option Addr)(c:Nat)(v:eN)(B N:Nat)(h:EnCore v B N 4)(av:yD v N)(dM:v.D.size=8388608->gF\/v.k.files=[])(hB:B+40<=1000000)(cz:v.k.files.length<=c)(w w0:World)(F:ba)(m:Mod w w0 (N0 e p I Y x2 t x5 U A c v F))(tab:fX F) :
 Calls Tryz.prog 32 #[ap e] w fun en w'=>en=.returned (.tuple #[])/\∃(v':eN)(aK dE t':Nat)(A':Option Addr)(c':Nat),cv v' (B+40) N 4/\ym v v'/\v'.k.files.length<=c'/\Mod w' w0 (o6 e p I aK dE t' U A' c' v' F):=by
 have dQ:cJ v.D:=p7 m (zbk:eM _ (bv p) v.D _);have HT:=zbj tab;have HC:=zbj h;have bg:=zbj av;have cB:=Jr h.okT;have eH:=h.small;have dN:=h.njB;have dP:=h.num;obtain⟨nT,bE⟩:∃n,v.T.length=n:=⟨_,rfl⟩
 have bK:Hid (∀(u:World)(X:ba),Mod u w0 (im t v.T*X)->Calls Tryz.prog 68 #[ap t,.agg #[.string ⟨#[]⟩,.int .u64 18446744073709551615,.bool false],.int .i64 4096] u fun en w'=>∃BT cT,en=.returned (.slice BT nT cT)/\Mod w' w0 (ar 71 4 (.slice BT nT cT) nT (v.T.flatMap ao.cells)*(im t v.T*X))):=fun u X mu=>by
  have J:=x8 t v.T ⟨⟨#[]⟩,18446744073709551615,false,⟨#[]⟩⟩ 4096 (by decide) u w0 X mu;rw[cB,Zn oMg,bE]at J;exact J
 obtain⟨nk,aJ⟩:∃n,v.k.next=n:=⟨_,rfl⟩
 have bU:Hid (∀(u:World)(X:ba),Mod u w0 (gA I p (ap Y) v.num v.xs.length (.slice A v.k.files.length v.k.files.length) v.k.nums*X)->Calls Tryz.prog 69 #[ap I] u fun en w'=>en=.returned (.int .u32 (nk:Int))/\Mod w' w0 (gA I p (ap Y) v.num v.xs.length (.slice A v.k.files.length v.k.files.length) v.k.nums*X)):=fun u X mu=>by
  have J:=zU I p (ap Y) v.num v.xs.length (.slice A v.k.files.length v.k.files.length) v.k.nums u w0 X mu;rw[show v.k.nums.2.1=nk from aJ]at J;exact J
 obtain⟨nx,au⟩:∃n,v.nx=n:=⟨_,rfl⟩;obtain⟨Z,ay⟩:∃n,v.cs.length=n:=⟨_,rfl⟩;obtain⟨nj,aO⟩:∃n,v.nj=n:=⟨_,rfl⟩;have ek:nx+Z=nj:=by rw[<-au,<-ay,<-aO]
 rw[aO]at dN;have aW:max 1 nk=nx:=by rw[<-aJ,<-au]
 have eB:Z<=1:=by rw[<-ay];exact h.cs1
 have aB:=zbj (h.OM dQ oMg oMg av)
 have bP:Hid (∀(u:World)(X:ba)(BT:Option Addr)(cT:Nat),nT<=cT->Mod u w0 (bv p v.D*(jT e p (ap I) x2 (ap t) (.int .u64 (v.seq:Int)) x5 (.map (some U))*X))->bp X BT nT v.T->fX X->Calls Tryz.prog 70 #[ap e,.slice BT nT cT,.int .i64 0,.int .u32 (nx:Int)] u fun en w'=>∃A' c' D1,en=.returned (.slice A' Z c')/\Z<=c'/\Hid (qQ v.D v.nx v.cs D1)/\Mod w' w0 (bv p {D1 with sure:=D1.now}*(ar 44 4 (.slice A' Z c') Z ((cX 0 v.nx v.cs).flatMap bi.cells)*(jT e p (ap I) x2 (ap t) (.int .u64 (v.seq:Int)) x5 (.map (some U))*X)))):=fun u X BT cT bu mu hr ht=>by
  have J:=Cj e p (ap I) x2 (ap t) (.int .u64 (v.seq:Int)) x5 (.map (some U)) v.D BT nT cT v.T 0 v.nx h.okT h.rise bu (fun c hc=>(h.MQ c hc).2) (by rw[au,show (dl v.T).length=Z from ay];omega) aB.out u w0 X mu hr ht oMg;rw[show (dl v.T).length=Z from ay,au]at J;rw[au];exact J
 have bf:=zbj (fun(u:World)(G:ba)(hG:Sub G F)(mu:Mod u w0 G)=>nF nj oMg u w0 G mu (tab.lift hG));have aH:=vF (n:=nj) oMg;have aU:=uy (n:=nj) oMg;obtain⟨jn,bD⟩:∃s,ez nj=s:=⟨_,rfl⟩;rw[bD]at bf aH aU;obtain⟨kj,aN⟩:∃n,v.k.al=n:=⟨_,rfl⟩;have dZ:kj<nx:=by rw[<-aN,<-aW,<-aJ];exact h.disk.jn
 have bT:=zbj (fun(u:World)(G:ba)(hG:Sub G F)(mu:Mod u w0 G)=>nF kj oMg u w0 G mu (tab.lift hG));have aX:=vF (n:=kj) oMg;obtain⟨on,bF⟩:∃s,ez kj=s:=⟨_,rfl⟩;rw[bF]at bT aX
 have bS:Hid (∀(u:World)(X:ba),Mod u w0 (gA I p (ap Y) v.num v.xs.length (.slice A v.k.files.length v.k.files.length) v.k.nums*X)->Calls Tryz.prog 58 #[ap I] u fun en w'=>en=.returned (.int .u32 (kj:Int))/\Mod w' w0 (gA I p (ap Y) v.num v.xs.length (.slice A v.k.files.length v.k.files.length) v.k.nums*X)):=fun u X mu=>by
  have J:=n7 I p (ap Y) v.num v.xs.length (.slice A v.k.files.length v.k.files.length) v.k.nums u w0 X mu;rw[show v.k.nums.1=kj from aN]at J;exact J
 have HE:=zbj (And.intro aJ (And.intro au (And.intro ay (And.intro aO (And.intro bD (And.intro aN bF))))));have eu:nT<=4096:=oMg
 have rT:∀BT cT,bp (ar 71 4 (.slice BT nT cT) nT (v.T.flatMap ao.cells)) BT nT v.T:=fun BT cT=>⟨bE,fh (by decide)⟩;have RT:=zbj rT;have eG:max (1:Int) (nk:Int)=(nx:Int):=oMg
 have eT:IntKind.u32.wrap (Z:Int)=(Z:Int):=by rw[IntKind.wrap_u32];omega
 have eU:IntKind.u32.wrap ((nx:Int)+(Z:Int))=(nj:Int):=by rw[IntKind.wrap_u32];omega
 have eX:IntKind.u32.wrap ((nj:Int)+1)=((nj+1:Nat):Int):=by rw[IntKind.wrap_u32];omega
 clear cB bE aJ au ay aO bD aN bF h av tab rT;go_enter Tryz.func32,Tryz.ntmps32
 go_wp2_with (go_at_call 68;refine(bK.out _ _ (Mod.pull (m:=m) (im t v.T))).mono ?_;rintro ex w1 ⟨BT,cT,rfl,m1⟩;refine Hid.out ?_)
 refine zbj ?_;go_wp2_with (go_at_call 69;refine(bU.out _ _ (Mod.pull (m:=m1) (gA I p (ap Y) v.num v.xs.length (.slice A v.k.files.length v.k.files.length) v.k.nums))).mono ?_;rintro ex w2 ⟨rfl,m2⟩;refine Hid.out ?_)
 refine zbj ?_;have bu:nT<=cT:=i7 m1;go_wp2_with (go_at_call 70;refine(bP.out _ _ BT cT bu (Mod.z9 (m:=m2) (bv p v.D) (jT e p (ap I) x2 (ap t) (.int .u64 (v.seq:Int)) x5 (.map (some U)))) ((RT.out BT cT).lift zbk) (HT.out.lift zbk)).mono ?_;rintro ex w3 ⟨A3,c3,D1,rfl,dG,HL,m3⟩;refine Hid.out ?_)
 refine zbj ?_;go_wp2_with fail
 clear m1 m2 bK bU bP RT;have aZ:Hid ((D1.now.map (·.1)).Nodup):=(p7 m3 (zbk:eM _ (bv p) {D1 with sure:=D1.now} _)).keys;obtain⟨D2,bn⟩:∃D,D=({D1 with sure:=D1.now}:aq):=⟨_,rfl⟩;rw[<-bn]at m3;have af:=zbj bn;clear bn;have bL:=zbj (fun(u:World)(G:ba)(mu:Mod u w0 (bv p D2*G))=>mi p D2 jn u w0 G mu aH);refine wp_region_held_drew (S:=fun u=>u.cell? ⟨e,0,none⟩=some (ap p)) kRf Za (fun y=>?_);simp only[Zl,List.length_cons,List.length_nil,Nat.reduceAdd];obtain⟨W,hW⟩:∃W,W=w3.drew:=⟨_,rfl⟩;have mW:Mod W w0 _:=hW▸Mod.drew (m:=m3);rw[<-hW]at y ⊢;clear hW m3;refine Tk.go [(0,some 31),(1,some 32),(2,some 33),(3,some 34),(4,some 35)] ?_
 repeat (
  refine Tk.gS (v:=?_) rfl (Or.inl ⟨by rfl,?_⟩) y ?_ (fun _ _ _ h=>h);rotate_left 1
  ·(intro u hu;(try dsimp only at hu);go_simp;try with_reducible rfl)
  simp only[Act.put,Zb,Zc,Zd])
 refine Tk.stop (g7 5 (some 36) rfl rfl rfl fun K hK=>?_);go_simp
 refine(bf.out _ _ zbk mW).mono ?_;rintro ex wn ⟨rfl,mn⟩;clear mW;refine hK.out (.string jn) _ Za (fun y=>?_);clear hK K;simp only[Act.put,Zb,Zc,Zd];refine(g7 6 (some 37) rfl rfl rfl fun K hK=>?_);go_simp
 refine(bL.out _ _ (Mod.pull (m:=mn) (bv p D2))).mono ?_;rintro ex w5 ⟨rr,rfl,m5⟩;clear mn;refine hK.out (.int .i64 rr) _ Za (fun y=>?_);clear hK K;simp only[Act.put,Zb,Zc,Zd];refine mH ?_;clear y;clear bL;obtain⟨D3,aD⟩:∃D,D=({D2 with now:=cG D2.now jn}:aq):=⟨_,rfl⟩;rw[<-aD]at m5
 have cZ:D3.now.length<64:=by
  have J:=JK HL.out;have h2:=aB.out.many;have h3:=(kT D2.now jn).length_le;have h4:D2.now=D1.now:=by rw[af.out]
  rw[aD];show (cG D2.now jn).length<64;rw[h4]at h3 ⊢;have h5:(dl v.T).length=v.cs.length:=rfl;omega
 have cK:br D3.now jn=none:=by rw[aD];exact kz _ _
 have aY:=zbj aD;clear aD
 have bN:Hid (∀(u:World)(G:ba),Mod u w0 (bv p D3*G)->Calls Tryz.prog 73 #[ap p,.string jn] u fun en w'=>∃g V AJ RJ,en=.returned (.tuple #[ap V,.slice AJ 0 0,.int .i64 0])/\cw D3.files g=none/\Mod w' w0 (bv p (jY D3 jn g)*(dt V p jn 0*(RJ*G)))):=fun u G mu=>by
  refine(JE p D3 jn u w0 G mu aU aH cK cZ).mono ?_;rintro en w' ⟨g,J,V,AJ,RJ,h2,_,h3⟩;exact⟨g,V,AJ,RJ,h2,J,h3⟩
 clear cK cZ;go_wp2_with fail
 refine wp_region_held_drew (S:=fun u=>u.cell? ⟨e,0,none⟩=some (ap p)) kRf Za (fun y=>?_);simp only[Zl,List.length_cons,List.length_nil,Nat.reduceAdd];obtain⟨W,hW⟩:∃W,W=w5.drew:=⟨_,rfl⟩;have mW:Mod W w0 _:=hW▸Mod.drew (m:=m5);rw[<-hW]at y ⊢;clear hW m5;refine Tk.go [(0,some 39),(1,some 40),(2,some 41),(3,some 42),(4,some 43)] ?_
 repeat (
  refine Tk.gS (v:=?_) rfl (Or.inl ⟨by rfl,?_⟩) y ?_ (fun _ _ _ h=>h);rotate_left 1
  ·(intro u hu;(try dsimp only at hu);go_simp;try with_reducible rfl)
  simp only[Act.put,Zb,Zc,Zd])
 refine Tk.stop (g7 5 (some 44) rfl rfl rfl fun K hK=>?_);go_simp
 refine(bf.out _ _ zbk mW).mono ?_;rintro ex wn ⟨rfl,mn⟩;clear mW;refine hK.out (.string jn) _ Za (fun y=>?_);clear hK K;simp only[Act.put,Zb,Zc,Zd];refine(g7 6 (some 45) rfl rfl rfl fun K hK=>?_);go_simp
 refine(bN.out _ _ (Mod.pull (m:=mn) (bv p D3))).mono ?_;rintro ex w6 ⟨g,V,AJ,RJ,rfl,hg,m6⟩;clear mn;refine hK.out (.tuple #[ap V,.slice AJ 0 0,.int .i64 0]) _ Za (fun y=>?_);clear hK K;simp only[Act.put,Zb,Zc,Zd];refine Tk.go [(7,some 38),(8,some 46),(9,some 47),(10,some 48),(11,some 5),(12,some 6),(13,some 7)] ?_
 repeat (
  refine Tk.gS (v:=?_) rfl (Or.inl ⟨by rfl,?_⟩) y ?_ (fun _ _ _ h=>h);rotate_left 1
  ·(intro u hu;(try dsimp only at hu);go_simp;try with_reducible rfl)
  simp only[Act.put,Zb,Zc,Zd])
 refine Tk.stop (mH ?_);clear y;clear bN;go_wp2_with (go_at_call 34;refine(g4 _ w0 _ m6).mono ?_;rintro ex w7 ⟨rfl,m7⟩;refine Hid.out ?_)
 refine zbj ?_;go_wp2_with (go_at_call 74;refine(kL p (jY D3 jn g) _ w0 _ _ m7 zbk).mono ?_;rintro ex w8 ⟨rfl,m8⟩;refine Hid.out ?_)
 refine zbj ?_;clear m6 m7;go_wp2_with (go_at_call 34;refine(g4 _ w0 _ m8).mono ?_;rintro ex fA ⟨rfl,dx⟩;refine Hid.out ?_)
 refine zbj ?_;clear m8;go_wp2_with (go_at_call 58;refine(bS.out _ _ (Mod.pull (m:=dx) (gA I p (ap Y) v.num v.xs.length (.slice A v.k.files.length v.k.files.length) v.k.nums))).mono ?_;rintro ex w9 ⟨rfl,m9⟩;refine Hid.out ?_)
 refine zbj ?_;clear dx bS;have e4:({jY D3 jn g with sure:=(jY D3 jn g).now}:aq)=ry D2 nj g:=by rw[aY.out,<-HE.out.2.2.2.2.1];rfl
 rw[e4]at m9;clear e4;have dz:Mod w9 w0 (fL I p Y v.num v.xs.length A c v.k (ry D2 nj g) (al [] (cf v.xs)).length (ar 44 4 (.slice A3 Z c3) Z ((cX 0 v.nx v.cs).flatMap bi.cells)*(jT e p (ap I) x2 (ap t) (.int .u64 (v.seq:Int)) x5 (.map (some U))*(im t v.T*(U64.gv U (g6 v.H)*(dt V p jn 0*F)))))):=Mod.keep m9;have bB:cw D2.files g=none:=by rw[aY.out]at hg;exact hg
 have bW:=zbj bB;have ax:cJ (ry D2 nj g):=p7 dz (zbk:eM _ (bv p) (ry D2 nj g) _);have e1:=HC.out.disk.laid HL.out (by rw[HE.out.2.1,<-aW,HE.out.1];omega) (by rw[HE.out.2.1,HE.out.2.2.1];omega) aZ.out (by have:=HC.out.files;have:=ux v.k.al;rw[HE.out.2.2.1];omega);rw[<-af.out]at e1;have aS:=HC.out.below;have e5:=e1.begins (n:=nj) (g:=g) bB (fun f hf=>by have:=aS f hf;rw[HE.out.2.1]at this;omega) oMg ax.keys (by have:=HC.out.files;have:=ux v.k.al;rw[Ze,ZW,XK,HE.out.2.2.1];omega)
 have HG:=zbj (HC.out.N3 oMg e5 ax (by have:=ux v.k.al;simp only[Ze,ZW,XK,List.length_singleton];rw[HE.out.2.2.1];omega) (by rw[show (ry D2 nj g).size=D2.size from rfl,af.out];exact(tx HL.out).1) (fun hT dK=>by
  have dI:v.cs=[]:=by show dl v.T=[];rw[hT];exact jF
  obtain⟨g',a1,a2⟩:=Eh D2 nj g;have hz:=uL a1 a2;rw[dK,dI];simp only[jL,Ez,if_true,List.length_nil,List.range_zero,Ye,List.nil_append,Zy,List.sum_cons,List.sum_nil,Nat.add_zero]
  rw[hz];simp[al]) bg.out)
 have bR:=zbj e5.man;have bO:=zbj ax.keys;clear e1 e5 ax bB aS dz;have ak:v.l7.added.length=Z:=by rw[<-HE.out.2.2.1];exact lo 0 _ _
 have bI:Hid (∀(u:World),Mod u w0 (fL I p Y v.num v.xs.length A c v.k (ry D2 nj g) (al [] (cf v.xs)).length (ar 44 4 (.slice A3 Z c3) Z ((cX 0 v.nx v.cs).flatMap bi.cells)*(jT e p (ap I) x2 (ap t) (.int .u64 (v.seq:Int)) x5 (.map (some U))*(im t v.T*(U64.gv U (g6 v.H)*(dt V p jn 0*F))))))->Calls Tryz.prog 75 #[ap I,.agg #[.slice A3 Z c3,.slice none 0 0,.int .u32 (nj:Int),.int .u32 ((nj+1:Nat):Int),.int .u64 (v.seq:Int)]] u fun en w'=>∃(O:aq)(z:Nat)(M:List db)(ae:Nat)(A5:Option Addr)(c5:Nat),en=.returned (.int .i64 0)/\Hid (jG O z M v.kw/\ki (ry D2 nj g) O/\z<=v.num+2/\v.kw.files.length<=c5/\(v.D.size≠8388608->(al [] (cf M)).length<=25000))/\Mod w' w0 (fL I p ae z M.length A5 c5 v.kw O (al [] (cf M)).length (ar 44 4 (.slice A3 Z c3) Z ((cX 0 v.nx v.cs).flatMap bi.cells)*(jT e p (ap I) x2 (ap t) (.int .u64 (v.seq:Int)) x5 (.map (some U))*(im t v.T*(U64.gv U (g6 v.H)*(dt V p jn 0*F))))))):=fun u mu=>by
  have dR:du (ar 44 4 (.slice A3 Z c3) Z ((cX 0 v.nx v.cs).flatMap bi.cells)) A3 Z (cX 0 v.nx v.cs):=⟨ak,fh (by decide)⟩;have eO:=HC.out.seq;have hr:kW (ar 44 4 (.slice A3 Z c3) Z ((cX 0 v.nx v.cs).flatMap bi.cells)*(jT e p (ap I) x2 (ap t) (.int .u64 (v.seq:Int)) x5 (.map (some U))*(im t v.T*(U64.gv U (g6 v.H)*(dt V p jn 0*F))))) ⟨A3,c3,none,0⟩ v.l7:=⟨by rw[ak];exact dR.lift zbk,⟨rfl,bk.jE _⟩,HC.out.Lv oMg,fun n hn=>(by cases hn),by rw[ak];omega,by simp,by show v.nj<_;rw[HE.out.2.2.2.1];omega,by show v.nj+1<_;rw[HE.out.2.2.2.1];omega,by show v.seq<_;omega,by rw[ak];exact dG,by simp⟩;have J:=Cn I p Y v.num A c v.k (ry D2 nj g) v.xs ⟨A3,c3,none,0⟩ v.l7 u w0 _ mu bR.out hr (HT.out.lift zbk) oMg (by rw[ak];have:=HC.out.files;omega) cz
  have ec:jW ⟨A3,c3,none,0⟩ v.l7=#[.slice A3 Z c3,.slice none 0 0,.int .u32 (nj:Int),.int .u32 ((nj+1:Nat):Int),.int .u64 (v.seq:Int)]:=by
   unfold jW;rw[ak,<-HE.out.2.2.2.1];rfl
  rw[ec]at J;refine J.mono ?_;rintro en w' ⟨r,O,z,M,k5,ae,A5,c5,rfl,q1,q2,q3,q4,q5,q6⟩;rcases q4 with⟨rfl,q4,ys,rfl,q7⟩ | ⟨_,_,dO,_⟩
  ·rw[HC.out.F8 oMg]at q4
   obtain rfl:=X5 q4;refine⟨O,z,_,ae,A5,c5,rfl,⟨q1,q2,q3,q5,fun hs=>?_⟩,q6⟩;rcases bg.out with⟨r1,_⟩ | ⟨_,r2,_⟩
   ·exact absurd r1 hs
   ·have h3:=q7 HG.out r2
    have h4:=HC.out.Lu oMg;have h5:=qN (al [] (cf ys)).length true (de v.l7);have e6:cf (ys++[v.l7])=cf ys++[de v.l7]:=by simp[cf]
    rw[e6,mP,Ze];omega
  ·exact absurd HG.out dO
 clear ak;go_wp2_with fail
 refine wp_region_held_drew (S:=fun u=>u.cell? ⟨e,1,none⟩=some (ap I)/\u.cell? ⟨e,4,none⟩=some (.int .u64 (v.seq:Int))) kRf (⟨Za,Za⟩) (fun y=>?_);simp only[Zl,List.length_cons,List.length_nil,Nat.reduceAdd];obtain⟨W,hW⟩:∃W,W=w9.drew:=⟨_,rfl⟩;have mW:Mod W w0 _:=hW▸Mod.drew (m:=m9);rw[<-hW]at y ⊢;clear hW m9;refine Tk.go [(0,some 62),(1,some 63),(2,some 64),(3,some 65),(4,some 66),(5,some 67),(6,some 68),(7,some 69),(8,some 70),(9,some 71),(10,some 72),(11,some 73),(12,some 74)] ?_
 repeat (
  refine Tk.gS (v:=?_) rfl (Or.inl ⟨by rfl,?_⟩) y ?_ (fun _ _ _ h=>h);rotate_left 1
  ·(intro u hu;(try dsimp only at hu);obtain⟨eP,eQ⟩:=hu;go_simp;try with_reducible rfl)
  simp only[Act.put,Zb,Zc,Zd])
 refine Tk.stop (g7 13 (some 75) rfl rfl rfl fun K hK=>?_);go_simp
 refine(bI.out _ (Mod.keep mW)).mono ?_;rintro ex eZ ⟨O,z,M,ae,A5,c5,rfl,aj,di⟩;clear mW;refine hK.out (.int .i64 0) _ (⟨Za,Za⟩) (fun y=>?_);clear hK K;simp only[Act.put,Zb,Zc,Zd];refine(g7 14 (some 76) rfl rfl rfl fun K hK=>?_);go_simp
 refine(g4 _ w0 _ di).mono ?_;rintro ex fe ⟨rfl,dm⟩;clear di;refine hK.out (.tuple #[]) _ (⟨Za,Za⟩) (fun y=>?_);clear hK K;simp only[Act.put,Zb,Zc,Zd];refine mH ?_;clear y;go_wp2_with fail
 go_cut []from 77 (fun wx=>∃t2,Mod wx w0 (bv p O*(gA I p (ap ae) z M.length (.slice A5 v.kw.files.length v.kw.files.length) v.kw.nums*(dt ae p (cD z) (al [] (cf M)).length*(kJ A5 c5 v.kw.files*(jT e p (ap I) (ap V) (ap t2) (.int .u64 (v.seq:Int)) (.int .u64 (v.seq:Int)) (.map (some U))*(im t2 []*(U64.gv U (g6 v.H)*(dt V p jn 0*F)))))))))
 case first =>
  go_region_with (go_at_call 55;refine(AX _ w0 _ (Mod.drew (m:=dm))).mono ?_;rintro ex fo ⟨t2,rfl,eY⟩)
  all_goals (go_wp2_with fail)
  all_goals go_meet
  all_goals
   refine⟨t2,lR fun mm=>?_⟩;simp only[Zb,Zc,Zd]at mm;exact Mod.keep mm
 case rest =>
  obtain⟨t2,aP⟩:=hcut;clear dm;go_upto_if 93 with fail
  go_cut []from 92 (fun wx=>Mod wx w0 (bv p (tM O kj)*(gA I p (ap ae) z M.length (.slice A5 v.kw.files.length v.kw.files.length) v.kw.nums*(dt ae p (cD z) (al [] (cf M)).length*(kJ A5 c5 v.kw.files*(jT e p (ap I) (ap V) (ap t2) (.int .u64 (v.seq:Int)) (.int .u64 (v.seq:Int)) (.map (some U))*(im t2 []*(U64.gv U (g6 v.H)*(dt V p jn 0*F)))))))))
  case first =>
   by_cases h0:kj=0
   ·have dL:¬(0:Int)<(kj:Int):=oMg
    have he:tM O kj=O:=by unfold tM;rw[if_pos h0]
    have He:=zbj he;clear h0 he;go_wp2_with fail
    go_meet
    rw[He.out];exact aP
   ·have dL:(0:Int)<(kj:Int):=oMg
    have he:tM O kj={O with now:=cG O.now on,sure:=cG O.now on}:=by unfold tM;rw[if_neg h0,HE.out.2.2.2.2.2.2]
    have He:=zbj he;have bM:=zbj (fun(u:World)(G:ba)(mu:Mod u w0 (bv p O*G))=>mi p O on u w0 G mu aX);clear h0 he;go_wp2_with fail
    refine wp_region_held_drew (S:=fun u=>u.cell? ⟨e,0,none⟩=some (ap p)) kRf Za (fun y=>?_);simp only[Zl,List.length_cons,List.length_nil,Nat.reduceAdd];obtain⟨W,hW⟩:∃W,W=wc.drew:=⟨_,rfl⟩;have mW:Mod W w0 _:=hW▸Mod.drew (m:=aP);rw[<-hW]at y ⊢;clear hW aP;refine Tk.go [(0,some 94),(1,some 95),(2,some 96),(3,some 97),(4,some 98)] ?_
    repeat (
     refine Tk.gS (v:=?_) rfl (Or.inl ⟨by rfl,?_⟩) y ?_ (fun _ _ _ h=>h);rotate_left 1
     ·(intro u hu;(try dsimp only at hu);go_simp;try with_reducible rfl)
     simp only[Act.put,Zb,Zc,Zd])
    refine Tk.stop (g7 5 (some 99) rfl rfl rfl fun K hK=>?_);go_simp
    refine(bT.out _ _ zbk mW).mono ?_;rintro ex wn ⟨rfl,mn⟩;clear mW;refine hK.out (.string on) _ Za (fun y=>?_);clear hK K;simp only[Act.put,Zb,Zc,Zd];refine(g7 6 (some 100) rfl rfl rfl fun K hK=>?_);go_simp
    refine(bM.out _ _ (Mod.pull (m:=mn) (bv p O))).mono ?_;rintro ex fq ⟨dW,rfl,dn⟩;clear mn;refine hK.out (.int .i64 dW) _ Za (fun y=>?_);clear hK K;simp only[Act.put,Zb,Zc,Zd];refine mH ?_;clear y;go_wp2_with (go_at_call 74;refine(kL p {O with now:=cG O.now on} _ w0 _ _ dn zbk).mono ?_;rintro ex fu ⟨rfl,aQ⟩)
    go_meet
    rw[He.out];exact Mod.keep aQ
  case rest =>
   have aQ:=hcut;clear hcut aP;have hR:cv (v.nY O z M) (B+8) N 5:=HC.out.nY oMg HL.out aZ.out (g:=g) (by have J:=bW.out;rw[af.out]at J;exact J) (by have J:=bO.out;rw[af.out,<-HE.out.2.2.2.1]at J;exact J) aj.out.1 (by have J:=aj.out.2.1;rw[af.out,<-HE.out.2.2.2.1]at J;exact J) aj.out.2.2.1
   have dh:(v.nY O z M).D.size=v.D.size:=by
    have J:(tM O v.k.al).size=O.size:=by unfold tM;split <;> rfl
    refine J.trans (aj.out.2.1.size.trans ?_);show D2.size=_;rw[af.out];exact(tx HL.out).1
   have aT:((v.D.size=8388608/\N<=2300)/\gF)\/(v.nY O z M).k.files.length<=1:=by
    rcases bg.out with r | ⟨_,_,r3,r4,_⟩
    ·rcases dM r.1 with r2 | r2
     ·exact .inl ⟨r,r2⟩
     ·refine .inr ?_
      show (ei ((v.k.files.filter _)++cX 0 v.nx (dl v.T))).length<=1;rw[r2,wV,List.filter_nil,List.nil_append,lo];exact HC.out.cs1
    ·refine .inr ?_
     show (ei ((v.k.files.filter _)++cX 0 v.nx (dl v.T))).length<=1;rw[r3,r4,jF];simp[cX,ei]
   have dw:Mod wc w0 (o6 e p I ae V t2 U A5 c5 (v.nY O z M) F):=by
    have e1:ez v.kw.al=jn:=by show ez v.nj=jn;rw[HE.out.2.2.2.1,HE.out.2.2.2.2.1]
    have e2:(al [] (([]:List (List ao)).map fy)).length=0:=by simp[al]
    show Mod wc w0 (fL I p ae z M.length A5 c5 v.kw (tM O v.k.al) (al [] (cf M)).length (jT e p (ap I) (ap V) (ap t2) (.int .u64 (v.seq:Int)) (.int .u64 (v.seq:Int)) (.map (some U))*(im t2 []*(U64.gv U (g6 v.H)*(dt V p (ez v.kw.al) (al [] (([]:List (List ao)).map fy)).length*F)))));rw[e1,e2,HE.out.2.2.2.2.2.1];exact Mod.keep aQ
   have bX:ym v (v.nY O z M):=⟨rfl,rfl,rfl,rfl,rfl,rfl,dh,aj.out.2.2.2.2⟩;have dH:(v.nY O z M).k.files.length<=c5:=aj.out.2.2.2.1;generalize v.nY O z M=v1 at *;clear aQ dh bR bO aZ aj HL af aY bW HG bI hg;go_wp2_with fail
   go_loopg [106] 3 (fun gk dA wr=>∃(i:Nat)(v':eN)(dS:Nat)(A':Option Addr)(c':Nat),i<=3/\gk=3-i/\dA=.int .i64 (i:Int)/\Hid (cv v' (B+8+8*i) N (if i=0 then 5 else 4))/\Hid (ym v v')/\Hid (((v.D.size=8388608/\N<=2300)/\gF)\/v'.k.files.length<=1)/\v'.k.files.length<=c'/\Mod wr w0 (o6 e p I dS V t2 U A' c' v' F))
   case atStart=>exact⟨0,v1,ae,A5,c5,oMg,rfl,rfl,hR,bX,aT,dH,dw⟩
   case round =>
    obtain⟨i,E,ah,A2,c2,hi,eD,rfl,ag,aa,bJ,bq,bG⟩:=hrel;clear dw aT bX hR;by_cases eF:i<3
    ·have ed:(i:Int)<3:=oMg
     have dY:E.k.files.length<=100:=by have J:=ag.out.toEnCore.files;split at J <;> omega
     have bQ:Hid (∀(u:World)(X:ba),Mod u w0 (gA I p (ap ah) E.num E.xs.length (.slice A2 E.k.files.length E.k.files.length) E.k.nums*(kJ A2 c2 E.k.files*(jT e p (ap I) (ap V) (ap t2) (.int .u64 (E.seq:Int)) (.int .u64 (E.sure:Int)) (.map (some U))*X)))->Calls Tryz.prog 76 #[ap e] u fun en w'=>∃(va:Value)(LV:ba),en=.returned va/\NQ va LV E.k.files/\Mod w' w0 (LV*(gA I p (ap ah) E.num E.xs.length (.slice A2 E.k.files.length E.k.files.length) E.k.nums*(kJ A2 c2 E.k.files*(jT e p (ap I) (ap V) (ap t2) (.int .u64 (E.seq:Int)) (.int .u64 (E.sure:Int)) (.map (some U))*X))))):=fun u X mu =>
      Ej e I p (ap p) (ap V) (ap t2) (.int .u64 (E.seq:Int)) (.int .u64 (E.sure:Int)) (.map (some U)) (ap ah) E.num E.xs.length A2 c2 E.k u w0 X mu oMg (fun f hf=>by rcases ag.out.disk.lev f hf with e | e | e <;> omega)
     obtain⟨nl,az⟩:∃n,(eE (i:Int) E.k.files).length=n:=⟨_,rfl⟩;have aL:=zbj az
     have bC:4<nl->i=0:=fun h4=>by
      rcases (show i=0\/i=1\/i=2 by omega)with rfl | rfl | rfl
      ·rfl
      ·have J:=ag.out.lv1
       have h2:(eE 1 E.k.files).length=nl:=az;omega
      ·have h2:(eE 2 E.k.files).length=nl:=az
       have h3:eE 2 E.k.files=[]:=Yr.2 fun f hf=>by
        rcases ag.out.disk.lev f hf with e | e | e <;> simp[e]
       rw[h3]at h2;simp at h2;omega
     have aR:Mod wr w0 _:=Mod.NJ (m:=bG) (gA I p (ap ah) E.num E.xs.length (.slice A2 E.k.files.length E.k.files.length) E.k.nums) (kJ A2 c2 E.k.files) (jT e p (ap I) (ap V) (ap t2) (.int .u64 (E.seq:Int)) (.int .u64 (E.sure:Int)) (.map (some U)));clear bG;by_cases h4:4<nl
     ·have dF:(4:Int)<(nl:Int):=oMg
      obtain rfl:=bC h4
      have df:¬E.k.files.length<=1:=fun e=>by
       have h9:(eE ((0:Nat):Int) E.k.files).length<=E.k.files.length:=Y7 _ _;omega
      obtain⟨aM,aV⟩:=bJ.out.resolve_right df
      have HM:Hid (∀(u:World),Mod u w0 (o6 e p I ah V t2 U A2 c2 E F)->Calls Tryz.prog 41 #[ap e,.int .i64 0,.int .i64 1] u fun en w'=>en=.returned (.tuple #[])/\∃(v':eN)(aK:Nat)(A':Option Addr)(c':Nat),cv v' (B+8+8) N 0/\CH 1 E v'/\v'.k.files.length<=c'/\Mod w' w0 (o6 e p I aK V t2 U A' c' v' F)):=fun u mu =>
       aV e p I ah V t2 U A2 c2 E (B+8) N 5 1 ag.out oMg aa.out.T aM.2 (aa.out.size.trans aM.1) (.inl rfl) oMg bq u w0 F mu HT.out
      clear az bC df;go_wp2_with (go_at_call 76;refine(bQ.out _ _ aR).mono ?_;rintro ex dX ⟨va,LV,rfl,aF,bH⟩;refine Hid.out ?_)
      refine zbj ?_;obtain⟨Ai,ci,bz,aG,_⟩:=aF 0 oMg;rw[aL.out]at bz
      have cO:∀w,(Instr.index 131 va (.int .i64 0)).run Tryz.prog w=.ok (.slice Ai nl ci) w:=fun w=>by
       have J:=aG w;rw[aL.out]at J;exact J
      clear aF aG;clear aR;go_wp2_with (go_at_call 41;refine(HM.out _ (Mod.keep bH)).mono ?_;rintro ex fw ⟨rfl,v3,dU,dB,dD,bZ,bY,cu,dV⟩;(have dC:=zbj bZ);(have ai:=zbj bY);clear bZ bY)
      go_roundg 2
      case measure=>omega
      case rel=>exact⟨1,v3,dU,dB,dD,oMg,rfl,rfl,dC.out.mono oMg (by simp),⟨ai.out.T.trans aa.out.T,ai.out.ws.trans aa.out.ws,ai.out.seq.trans aa.out.seq,ai.out.sure.trans aa.out.sure,ai.out.H.trans aa.out.H,ai.out.W.trans aa.out.W,ai.out.size.trans aa.out.size,fun hs=>absurd aM.1 hs⟩,.inl ⟨aM,aV⟩,cu,dV⟩
     ·have dF:¬(4:Int)<(nl:Int):=oMg
      have aI:cv E (B+8+8*(i+1)) N (if i+1=0 then 5 else 4):=by
       rw[if_neg oMg];refine cv.lv (cv.mono ag.out oMg (Zm _)) ?_;by_cases h0:i=0
       ·subst h0
        have h2:(eE 0 E.k.files).length=nl:=az;omega
       ·have J:=ag.out.lv0
        rw[if_neg h0]at J;exact J
      have bV:=zbj aI;clear az bC aI;go_wp2_with (go_at_call 76;refine(bQ.out _ _ aR).mono ?_;rintro ex dX ⟨va,LV,rfl,aF,bH⟩;refine Hid.out ?_)
      refine zbj ?_;obtain⟨Ai,ci,bz,aG,_⟩:=aF i oMg;rw[aL.out]at bz
      have cO:∀w,(Instr.index 131 va (.int .i64 (i:Int))).run Tryz.prog w=.ok (.slice Ai nl ci) w:=fun w=>by
       have J:=aG w;rw[aL.out]at J;exact J
      clear aF aG;clear aR;go_wp2_with fail
      go_roundg (3-(i+1))
      case measure=>omega
      case rel=>exact⟨i+1,E,ah,A2,c2,oMg,rfl,by go_num,bV.out,aa.out,bJ.out,bq,Mod.keep bH⟩
    ·have dJ:i=3:=oMg
     subst dJ;go_wp2_with fail
     go_end0
     exact⟨rfl,E,ah,V,t2,A2,c2,ag.out.mono oMg (by simp),aa.out,bq,bG⟩
end Go.Proofs.YtdfppjcaelghhaaGreatDoor
