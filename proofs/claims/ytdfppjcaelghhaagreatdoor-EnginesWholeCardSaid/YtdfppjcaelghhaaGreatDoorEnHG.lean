/- Plain lemmas and contracts; the conditions are in each. -/
import Derived.Test.YtdfppjcaelghhaaGreatDoorEnGG
import Derived.Test.YtdfppjcaelghhaaGreatDoorMfCG
set_option maxRecDepth 8000
set_option maxHeartbeats 8000000
namespace Go.Proofs.YtdfppjcaelghhaaGreatDoor
open Go.RowKit Go.Sl
attribute [local go_sem] ab bj bh bd
def eE (lv:Int)(l:List bi):List bi:=l.filter fun f=>f.level==lv
theorem Lc (lv:Int):eE lv []=[]:=rfl
theorem IW (lv:Int){l:List bi}{i:Nat}(h:i<l.length):eE lv (l.take (i+1))=if l[i].level=lv then eE lv (l.take i)++[l[i]]else eE lv (l.take i):=by
 unfold eE;rw[Zx h,Yp]
 split
 ·next e=>simp[e]
 ·next e=>simp[e]
theorem uW (lv:Int)(l:List bi)(i:Nat):(eE lv (l.take i)).length<=i:=by
 unfold eE;exact Yl (Y7 _ _) (by rw[Zt];omega)
theorem Ii:Tryz.prog.underlying 131=some (.array 4 40):=kRf
theorem E0:(Tryz.prog.info? 131).map (·.size)=some 4:=kRf
abbrev Bs (y:Option Addr)(I:Nat)(z:Option Addr)(J:Nat)(B:Option Addr)(K:Nat)(E:Option Addr)(M:Nat)(l:List bi):ba:=kJ y I (eE 0 l)*(kJ z J (eE 1 l)*(kJ B K (eE 2 l)*kJ E M (eE 3 l)))
theorem Gy (e mp p:Nat)(x0:Value)(x2 x3 x4 x5 x6:Value)(j:Value)(num many:Nat)(A:Option Addr)(c:Nat)(k:dk)(w w0:World)(F:ba)
 (m:Mod w w0 (gA mp p j num many (.slice A k.files.length k.files.length) k.nums*(kJ A c k.files*(aE e (.cells #[x0,ap mp,x2,x3,x4,x5,x6] 66 (0,0))*F)))) (ak:k.files.length<=100000000) (aO:∀f∈k.files,0<=f.level/\f.level<4) :
 Calls Tryz.prog 76 #[ap e] w fun en w'=>∃U c0 V c1 Y c2 Z c3,en=.returned (.agg #[.slice U (eE 0 k.files).length c0,.slice V (eE 1 k.files).length c1,.slice Y (eE 2 k.files).length c2,.slice Z (eE 3 k.files).length c3])/\Mod w' w0 (Bs U c0 V c1 Y c2 Z c3 k.files*(gA mp p j num many (.slice A k.files.length k.files.length) k.nums*(kJ A c k.files*(aE e (.cells #[x0,ap mp,x2,x3,x4,x5,x6] 66 (0,0))*F)))):=by
 have HM:=zbj (fun(u:World)(G:ba)(mu:Mod u w0 (gA mp p j num many (.slice A k.files.length k.files.length) k.nums*(kJ A c k.files*G)))=>sR mp p j num many A c k u w0 G mu ak);have HV:=zbj aO;obtain⟨S,hS⟩:∃S,S=gA mp p j num many (.slice A k.files.length k.files.length) k.nums*(kJ A c k.files*(aE e (.cells #[x0,ap mp,x2,x3,x4,x5,x6] 66 (0,0))*F)):=⟨_,rfl⟩;have bn:jq S e (.cells #[x0,ap mp,x2,x3,x4,x5,x6] 66 (0,0)):=by rw[hS];infer_instance
 have HC:Hid (∀(u:World)(G:ba),Mod u w0 (G*S)->Calls Tryz.prog 42 #[ap mp] u fun e w'=>∃A' c',e=.returned (.slice A' k.files.length k.files.length)/\k.files.length<=c'/\Mod w' w0 (kJ A' c' k.files*(G*S))):=fun u G mu=>by
  have aX:Mod u w0 (gA mp p j num many (.slice A k.files.length k.files.length) k.nums*(kJ A c k.files*(aE e (.cells #[x0,ap mp,x2,x3,x4,x5,x6] 66 (0,0))*F*G))):=Mod.to (m:=mu) (by rw[hS];ac_rfl);refine(HM.out u _ aX).mono fun e' w' ⟨A',c',h1,h2,h3⟩=>⟨A',c',h1,h2,Mod.to (m:=h3) (by rw[hS];ac_rfl)⟩
 rw[<-hS]at m ⊢;clear hS HM aO;generalize k.files=l at *;obtain⟨n,hn⟩:∃n,l.length=n:=⟨_,rfl⟩;unfold kJ at HC;rw[hn]at HC ak;have HL:=zbj hn;clear hn;go_enter Tryz.func76,Tryz.ntmps76
 go_wp2_with fail
 obtain⟨B,av⟩:∃B,w.heap.size=B:=⟨_,rfl⟩;have m1:Mod (w.alloc (.cells #[.slice none 0 0,.slice none 0 0,.slice none 0 0,.slice none 0 0] 131)) w0 (aE B (.cells #[.slice none 0 0,.slice none 0 0,.slice none 0 0,.slice none 0 0] 131 (0,0))*S):=Mod.alloc (m:=m) (hn:=⟨av⟩) _;rw[av];generalize w.alloc (.cells #[.slice none 0 0,.slice none 0 0,.slice none 0 0,.slice none 0 0] 131)=w1 at *;clear av m;go_wp2_with (go_at_call 42;refine(HC.out _ _ m1).mono ?_;rintro en w2 ⟨AF,cF,rfl,aZ,m2⟩;refine Hid.out ?_)
 refine zbj ?_;go_wp2_with fail
 have m3:=ey (e:=44) (size:=4) (ey (e:=44) (size:=4) (ey (e:=44) (size:=4) (ey (e:=44) (size:=4) m2)));clear m2 m1;go_loopg [11] n (fun gk aY wr=>∃(i:Nat)(U:Option Addr)(c0:Nat)(V:Option Addr)(c1:Nat)(Y:Option Addr)(c2:Nat)(Z:Option Addr)(c3:Nat),i<=n/\gk=n-i/\aY=.int .i64 i/\Mod wr w0 (aE B (.cells #[.slice U (eE 0 (l.take i)).length c0,.slice V (eE 1 (l.take i)).length c1,.slice Y (eE 2 (l.take i)).length c2,.slice Z (eE 3 (l.take i)).length c3] 131 (0,0))*(Bs U c0 V c1 Y c2 Z c3 (l.take i)*(kJ AF cF l*S))))
 case atStart=>exact⟨0,none,0,none,0,none,0,none,0,Zv _,rfl,rfl,Mod.to (m:=m3) (by simp only[List.take_zero,Lc,Bs,kJ,Yv,List.length_nil,HL.out];ac_rfl)⟩
 case round =>
  obtain⟨i,U,c0,V,c1,Y,c2,Z,c3,hi,bf,rfl,m4⟩:=hrel;by_cases ai:i<n
  ·have aj:i<l.length:=by rw[HL.out];exact ai
   have au:=HV.out l[i] (Zq aj);have HT:=zbj (fun lv=>IW lv aj);have rF:=(kR AF cF l)
   obtain⟨b,o,rfl⟩:∃b o,AF=some ⟨b,o,none⟩:=by
    have aW:Mod wr w0 (kJ AF cF l*(aE B (.cells #[.slice U (eE 0 (l.take i)).length c0,.slice V (eE 1 (l.take i)).length c1,.slice Y (eE 2 (l.take i)).length c2,.slice Z (eE 3 (l.take i)).length c3] 131 (0,0))*(Bs U c0 V c1 Y c2 Z c3 (l.take i)*S))):=Mod.to (m:=m4) (by ac_rfl);exact j8 aW (rF.lift zbk) aj
   have HF:=zbj (oL rF aj);clear rF;have aK:=uW 0 l i;have aL:=uW 1 l i;have aM:=uW 2 l i;have aN:=uW 3 l i;obtain⟨q0,ay⟩:∃q,eE 0 (l.take i)=q:=⟨_,rfl⟩;obtain⟨q1,az⟩:∃q,eE 1 (l.take i)=q:=⟨_,rfl⟩;obtain⟨q2,aB⟩:∃q,eE 2 (l.take i)=q:=⟨_,rfl⟩;obtain⟨q3,aD⟩:∃q,eE 3 (l.take i)=q:=⟨_,rfl⟩;simp only[Bs,ay,az,aB,aD]at m4 aK aL aM aN;have HQ:=zbj (And.intro ay (And.intro az (And.intro aB aD)));clear ay az aB aD;obtain⟨f,hf⟩:∃f,l[i]=f:=⟨_,rfl⟩;rw[hf]at HF au;simp only[hf]at HT;clear hf aj;unfold kJ at m4;rw[HL.out]at m4;obtain⟨n0,ae⟩:∃n,q0.length=n:=⟨_,rfl⟩;obtain⟨n1,af⟩:∃n,q1.length=n:=⟨_,rfl⟩;obtain⟨n2,ag⟩:∃n,q2.length=n:=⟨_,rfl⟩;obtain⟨n3,ah⟩:∃n,q3.length=n:=⟨_,rfl⟩;simp only[ae,af,ag,ah]at m4 aK aL aM aN;have HN:=zbj (And.intro ae (And.intro af (And.intro ag ah)));clear ae af ag ah;obtain⟨O,aa,J,M⟩:=f;obtain⟨aP,aQ⟩:=au;simp only at aP aQ HF;have aR:bw (ar 44 4 (.slice (some ⟨b,o,none⟩) n cF) n (l.flatMap bi.cells)) b (o+i*4) (.int .u32 (O:Int)):=by have h:=HF.out.1;unfold kJ at h;rw[HL.out]at h;exact h
   have aS:bw (ar 44 4 (.slice (some ⟨b,o,none⟩) n cF) n (l.flatMap bi.cells)) b (o+i*4+1) (.int .i64 aa):=by have h:=HF.out.2.1;unfold kJ at h;rw[HL.out]at h;exact h
   have aT:bw (ar 44 4 (.slice (some ⟨b,o,none⟩) n cF) n (l.flatMap bi.cells)) b (o+i*4+2) (.string J):=by have h:=HF.out.2.2.1;unfold kJ at h;rw[HL.out]at h;exact h
   have aU:bw (ar 44 4 (.slice (some ⟨b,o,none⟩) n cF) n (l.flatMap bi.cells)) b (o+i*4+3) (.string M):=by have h:=HF.out.2.2.2;unfold kJ at h;rw[HL.out]at h;exact h
   clear HF;have bg:(i:Int)<(n:Int):=oMg
   go_wp2_with fail
   obtain⟨gf,ax⟩:∃gf,wr.heap.size=gf:=⟨_,rfl⟩;have m5:Mod (wr.alloc (.cells #[.int .u32 (O:Int),.int .i64 aa,.string J,.string M] 44)) w0 (aE gf (.cells #[.int .u32 (O:Int),.int .i64 aa,.string J,.string M] 44 (0,0))*_):=Mod.alloc (m:=m4) (hn:=⟨ax⟩) _;rw[ax];generalize wr.alloc (.cells #[.int .u32 (O:Int),.int .i64 aa,.string J,.string M] 44)=w3 at *;clear ax m4 aR aS aT aU;obtain hv | hv | hv | hv:aa=0\/aa=1\/aa=2\/aa=3:=oMg
   all_goals subst hv
   all_goals clear aP aQ
   ·refine eS 10 (fun u=>u.cell? ⟨gf,0,none⟩=some (.int .u32 (O:Int))/\u.cell? ⟨gf,1,none⟩=some (.int .i64 0)/\u.cell? ⟨gf,2,none⟩=some (.string J)/\u.cell? ⟨gf,3,none⟩=some (.string M)/\u.cell? ⟨B,0,none⟩=some (.slice U n0 c0)) kRf ⟨Za,Za,Za,Za,Za⟩ (fun y=>?_)
    simp only[Zl,List.length_cons,List.length_nil,Nat.reduceAdd];obtain⟨W,hW⟩:∃W,W=w3.drew:=⟨_,rfl⟩;have mW:Mod W w0 _:=hW▸Mod.drew (m:=m5);rw[<-hW]at y ⊢;clear hW m5;refine Tk.go [(0,some 15),(1,some 16),(2,some 17),(3,some 18),(4,some 19),(5,some 20),(6,some 21)] ?_
    repeat (
     refine Tk.one (v:=?_) rfl (Or.inl ⟨by rfl,?_⟩) y ?_ (fun _ _ _ h=>h);rotate_left 1
     ·(intro u hu;(try dsimp only at hu);obtain⟨aF,aG,aH,aI,aJ⟩:=hu;go_simp;try with_reducible rfl)
     simp only[Act.put,Zb,Zc,Zd])
    refine Tk.stop (sX 7 (some 22) rfl rfl rfl fun K z=>?_);refine ng (size:=4) rfl rfl rfl (by decide) ?_;have m6:=Mod.alloc (m:=mW) (.cells #[.int .u32 (O:Int),.int .i64 0,.string J,.string M] 44) (n:=W.heap.size) (hn:=⟨rfl⟩);refine z.out (.slice (some ⟨W.heap.size,0,none⟩) 1 1) _ ⟨Za,Za,Za,Za,Za⟩ (fun y=>?_);clear z K;simp only[Act.put,Zb,Zc,Zd];refine sX 8 (some 23) rfl rfl rfl fun K z=>?_;refine mz (t:=40) rfl (Mod.pull (m:=m6) (ar 44 4 (.slice U n0 c0) n0 (q0.flatMap bi.cells))) rfl (A:=⟨W.heap.size,0,none⟩) (k:=1) (c:=1) (news:=(bi.mk O 0 J M).cells) rfl (ce rfl rfl) (by decide) (fun u hu=>qq (bi.mk O 0 J M) u hu) (by unfold maxLen;omega) oMg ?_;intro E I w5 m7;refine z.out (.slice E (n0+1) I) _ ⟨Za,Za,Za,Za,Za⟩ (fun y=>?_);clear z K;simp only[Act.put,Zb,Zc,Zd];refine sX 9 (some 24) rfl rfl rfl fun K z=>?_;go_simp
    refine z.out (.pointer (some ⟨B,0,none⟩)) _ y (fun y=>?_);clear z K;simp only[Act.put,Zb,Zc,Zd];refine Aa none rfl rfl rfl fun K z=>?_;go_simp
    refine z.out undef _ ?_;clear z K;simp only[Act.put];have m8:Mod (w5.setCell ⟨B,0,none⟩ (.slice E (n0+1) I)) w0 _:=zbk;generalize w5.setCell ⟨B,0,none⟩ (.slice E (n0+1) I)=w6 at *;simp only[Zb,Zc]at m8;have m9:Mod w6 w0 (aE B (.cells #[.slice E (n0+1) I,.slice V n1 c1,.slice Y n2 c2,.slice Z n3 c3] 131 (0,0))*((ar 44 4 (.slice E (n0+1) I) (n0+1) (q0.flatMap bi.cells++(bi.mk O 0 J M).cells)*(ar 44 4 (.slice V n1 c1) n1 (q1.flatMap bi.cells)*(ar 44 4 (.slice Y n2 c2) n2 (q2.flatMap bi.cells)*ar 44 4 (.slice Z n3 c3) n3 (q3.flatMap bi.cells))))*(ar 44 4 (.slice (some ⟨b,o,none⟩) n cF) n (l.flatMap bi.cells)*S))):=Mod.keep m8;clear y m8 m7 m6 mW;go_wp2_with fail
    go_roundg (n-(i+1))
    case measure=>omega
    case rel =>
     obtain⟨e0,e1,e2,e3⟩:=HQ.out;obtain⟨d0,d1,d2,d3⟩:=HN.out;have t0:=HT.out 0;have t1:=HT.out 1;have t2:=HT.out 2;have t3:=HT.out 3;simp only[e0,e1,e2,e3,Int.reduceEq,if_true,if_false]at t0 t1 t2 t3;refine⟨i+1,E,I,V,c1,Y,c2,Z,c3,ai,rfl,rfl,?_⟩;simp only[Bs,kJ,t0,t1,t2,t3,Ze,List.length_singleton,Z4,Zp,Yv,ZH,d0,d1,d2,d3,HL.out];exact m9
   ·refine eS 10 (fun u=>u.cell? ⟨gf,0,none⟩=some (.int .u32 (O:Int))/\u.cell? ⟨gf,1,none⟩=some (.int .i64 1)/\u.cell? ⟨gf,2,none⟩=some (.string J)/\u.cell? ⟨gf,3,none⟩=some (.string M)/\u.cell? ⟨B,1,none⟩=some (.slice V n1 c1)) kRf ⟨Za,Za,Za,Za,Za⟩ (fun y=>?_)
    simp only[Zl,List.length_cons,List.length_nil,Nat.reduceAdd];obtain⟨W,hW⟩:∃W,W=w3.drew:=⟨_,rfl⟩;have mW:Mod W w0 _:=hW▸Mod.drew (m:=m5);rw[<-hW]at y ⊢;clear hW m5;refine Tk.go [(0,some 15),(1,some 16),(2,some 17),(3,some 18),(4,some 19),(5,some 20),(6,some 21)] ?_
    repeat (
     refine Tk.one (v:=?_) rfl (Or.inl ⟨by rfl,?_⟩) y ?_ (fun _ _ _ h=>h);rotate_left 1
     ·(intro u hu;(try dsimp only at hu);obtain⟨aF,aG,aH,aI,aJ⟩:=hu;go_simp;try with_reducible rfl)
     simp only[Act.put,Zb,Zc,Zd])
    refine Tk.stop (sX 7 (some 22) rfl rfl rfl fun K z=>?_);refine ng (size:=4) rfl rfl rfl (by decide) ?_;have m6:=Mod.alloc (m:=mW) (.cells #[.int .u32 (O:Int),.int .i64 1,.string J,.string M] 44) (n:=W.heap.size) (hn:=⟨rfl⟩);refine z.out (.slice (some ⟨W.heap.size,0,none⟩) 1 1) _ ⟨Za,Za,Za,Za,Za⟩ (fun y=>?_);clear z K;simp only[Act.put,Zb,Zc,Zd];refine sX 8 (some 23) rfl rfl rfl fun K z=>?_;refine mz (t:=40) rfl (Mod.pull (m:=m6) (ar 44 4 (.slice V n1 c1) n1 (q1.flatMap bi.cells))) rfl (A:=⟨W.heap.size,0,none⟩) (k:=1) (c:=1) (news:=(bi.mk O 1 J M).cells) rfl (ce rfl rfl) (by decide) (fun u hu=>qq (bi.mk O 1 J M) u hu) (by unfold maxLen;omega) oMg ?_;intro E I w5 m7;refine z.out (.slice E (n1+1) I) _ ⟨Za,Za,Za,Za,Za⟩ (fun y=>?_);clear z K;simp only[Act.put,Zb,Zc,Zd];refine sX 9 (some 24) rfl rfl rfl fun K z=>?_;go_simp
    refine z.out (.pointer (some ⟨B,1,none⟩)) _ y (fun y=>?_);clear z K;simp only[Act.put,Zb,Zc,Zd];refine Aa none rfl rfl rfl fun K z=>?_;go_simp
    refine z.out undef _ ?_;clear z K;simp only[Act.put];have m8:Mod (w5.setCell ⟨B,1,none⟩ (.slice E (n1+1) I)) w0 _:=zbk;generalize w5.setCell ⟨B,1,none⟩ (.slice E (n1+1) I)=w6 at *;simp only[Zb,Zc,Zd]at m8;have m9:Mod w6 w0 (aE B (.cells #[.slice U n0 c0,.slice E (n1+1) I,.slice Y n2 c2,.slice Z n3 c3] 131 (0,0))*((ar 44 4 (.slice U n0 c0) n0 (q0.flatMap bi.cells)*(ar 44 4 (.slice E (n1+1) I) (n1+1) (q1.flatMap bi.cells++(bi.mk O 1 J M).cells)*(ar 44 4 (.slice Y n2 c2) n2 (q2.flatMap bi.cells)*ar 44 4 (.slice Z n3 c3) n3 (q3.flatMap bi.cells))))*(ar 44 4 (.slice (some ⟨b,o,none⟩) n cF) n (l.flatMap bi.cells)*S))):=Mod.keep m8;clear y m8 m7 m6 mW;go_wp2_with fail
    go_roundg (n-(i+1))
    case measure=>omega
    case rel =>
     obtain⟨e0,e1,e2,e3⟩:=HQ.out;obtain⟨d0,d1,d2,d3⟩:=HN.out;have t0:=HT.out 0;have t1:=HT.out 1;have t2:=HT.out 2;have t3:=HT.out 3;simp only[e0,e1,e2,e3,Int.reduceEq,if_true,if_false]at t0 t1 t2 t3;refine⟨i+1,U,c0,E,I,Y,c2,Z,c3,ai,rfl,rfl,?_⟩;simp only[Bs,kJ,t0,t1,t2,t3,Ze,List.length_singleton,Z4,Zp,Yv,ZH,d0,d1,d2,d3,HL.out];exact m9
   ·refine eS 10 (fun u=>u.cell? ⟨gf,0,none⟩=some (.int .u32 (O:Int))/\u.cell? ⟨gf,1,none⟩=some (.int .i64 2)/\u.cell? ⟨gf,2,none⟩=some (.string J)/\u.cell? ⟨gf,3,none⟩=some (.string M)/\u.cell? ⟨B,2,none⟩=some (.slice Y n2 c2)) kRf ⟨Za,Za,Za,Za,Za⟩ (fun y=>?_)
    simp only[Zl,List.length_cons,List.length_nil,Nat.reduceAdd];obtain⟨W,hW⟩:∃W,W=w3.drew:=⟨_,rfl⟩;have mW:Mod W w0 _:=hW▸Mod.drew (m:=m5);rw[<-hW]at y ⊢;clear hW m5;refine Tk.go [(0,some 15),(1,some 16),(2,some 17),(3,some 18),(4,some 19),(5,some 20),(6,some 21)] ?_
    repeat (
     refine Tk.one (v:=?_) rfl (Or.inl ⟨by rfl,?_⟩) y ?_ (fun _ _ _ h=>h);rotate_left 1
     ·(intro u hu;(try dsimp only at hu);obtain⟨aF,aG,aH,aI,aJ⟩:=hu;go_simp;try with_reducible rfl)
     simp only[Act.put,Zb,Zc,Zd])
    refine Tk.stop (sX 7 (some 22) rfl rfl rfl fun K z=>?_);refine ng (size:=4) rfl rfl rfl (by decide) ?_;have m6:=Mod.alloc (m:=mW) (.cells #[.int .u32 (O:Int),.int .i64 2,.string J,.string M] 44) (n:=W.heap.size) (hn:=⟨rfl⟩);refine z.out (.slice (some ⟨W.heap.size,0,none⟩) 1 1) _ ⟨Za,Za,Za,Za,Za⟩ (fun y=>?_);clear z K;simp only[Act.put,Zb,Zc,Zd];refine sX 8 (some 23) rfl rfl rfl fun K z=>?_;refine mz (t:=40) rfl (Mod.pull (m:=m6) (ar 44 4 (.slice Y n2 c2) n2 (q2.flatMap bi.cells))) rfl (A:=⟨W.heap.size,0,none⟩) (k:=1) (c:=1) (news:=(bi.mk O 2 J M).cells) rfl (ce rfl rfl) (by decide) (fun u hu=>qq (bi.mk O 2 J M) u hu) (by unfold maxLen;omega) oMg ?_;intro E I w5 m7;refine z.out (.slice E (n2+1) I) _ ⟨Za,Za,Za,Za,Za⟩ (fun y=>?_);clear z K;simp only[Act.put,Zb,Zc,Zd];refine sX 9 (some 24) rfl rfl rfl fun K z=>?_;go_simp
    refine z.out (.pointer (some ⟨B,2,none⟩)) _ y (fun y=>?_);clear z K;simp only[Act.put,Zb,Zc,Zd];refine Aa none rfl rfl rfl fun K z=>?_;go_simp
    refine z.out undef _ ?_;clear z K;simp only[Act.put];have m8:Mod (w5.setCell ⟨B,2,none⟩ (.slice E (n2+1) I)) w0 _:=zbk;generalize w5.setCell ⟨B,2,none⟩ (.slice E (n2+1) I)=w6 at *;simp only[Zb,Zc,Zd]at m8;have m9:Mod w6 w0 (aE B (.cells #[.slice U n0 c0,.slice V n1 c1,.slice E (n2+1) I,.slice Z n3 c3] 131 (0,0))*((ar 44 4 (.slice U n0 c0) n0 (q0.flatMap bi.cells)*(ar 44 4 (.slice V n1 c1) n1 (q1.flatMap bi.cells)*(ar 44 4 (.slice E (n2+1) I) (n2+1) (q2.flatMap bi.cells++(bi.mk O 2 J M).cells)*ar 44 4 (.slice Z n3 c3) n3 (q3.flatMap bi.cells))))*(ar 44 4 (.slice (some ⟨b,o,none⟩) n cF) n (l.flatMap bi.cells)*S))):=Mod.keep m8;clear y m8 m7 m6 mW;go_wp2_with fail
    go_roundg (n-(i+1))
    case measure=>omega
    case rel =>
     obtain⟨e0,e1,e2,e3⟩:=HQ.out;obtain⟨d0,d1,d2,d3⟩:=HN.out;have t0:=HT.out 0;have t1:=HT.out 1;have t2:=HT.out 2;have t3:=HT.out 3;simp only[e0,e1,e2,e3,Int.reduceEq,if_true,if_false]at t0 t1 t2 t3;refine⟨i+1,U,c0,V,c1,E,I,Z,c3,ai,rfl,rfl,?_⟩;simp only[Bs,kJ,t0,t1,t2,t3,Ze,List.length_singleton,Z4,Zp,Yv,ZH,d0,d1,d2,d3,HL.out];exact m9
   ·refine eS 10 (fun u=>u.cell? ⟨gf,0,none⟩=some (.int .u32 (O:Int))/\u.cell? ⟨gf,1,none⟩=some (.int .i64 3)/\u.cell? ⟨gf,2,none⟩=some (.string J)/\u.cell? ⟨gf,3,none⟩=some (.string M)/\u.cell? ⟨B,3,none⟩=some (.slice Z n3 c3)) kRf ⟨Za,Za,Za,Za,Za⟩ (fun y=>?_)
    simp only[Zl,List.length_cons,List.length_nil,Nat.reduceAdd];obtain⟨W,hW⟩:∃W,W=w3.drew:=⟨_,rfl⟩;have mW:Mod W w0 _:=hW▸Mod.drew (m:=m5);rw[<-hW]at y ⊢;clear hW m5;refine Tk.go [(0,some 15),(1,some 16),(2,some 17),(3,some 18),(4,some 19),(5,some 20),(6,some 21)] ?_
    repeat (
     refine Tk.one (v:=?_) rfl (Or.inl ⟨by rfl,?_⟩) y ?_ (fun _ _ _ h=>h);rotate_left 1
     ·(intro u hu;(try dsimp only at hu);obtain⟨aF,aG,aH,aI,aJ⟩:=hu;go_simp;try with_reducible rfl)
     simp only[Act.put,Zb,Zc,Zd])
    refine Tk.stop (sX 7 (some 22) rfl rfl rfl fun K z=>?_);refine ng (size:=4) rfl rfl rfl (by decide) ?_;have m6:=Mod.alloc (m:=mW) (.cells #[.int .u32 (O:Int),.int .i64 3,.string J,.string M] 44) (n:=W.heap.size) (hn:=⟨rfl⟩);refine z.out (.slice (some ⟨W.heap.size,0,none⟩) 1 1) _ ⟨Za,Za,Za,Za,Za⟩ (fun y=>?_);clear z K;simp only[Act.put,Zb,Zc,Zd];refine sX 8 (some 23) rfl rfl rfl fun K z=>?_;refine mz (t:=40) rfl (Mod.pull (m:=m6) (ar 44 4 (.slice Z n3 c3) n3 (q3.flatMap bi.cells))) rfl (A:=⟨W.heap.size,0,none⟩) (k:=1) (c:=1) (news:=(bi.mk O 3 J M).cells) rfl (ce rfl rfl) (by decide) (fun u hu=>qq (bi.mk O 3 J M) u hu) (by unfold maxLen;omega) oMg ?_;intro E I w5 m7;refine z.out (.slice E (n3+1) I) _ ⟨Za,Za,Za,Za,Za⟩ (fun y=>?_);clear z K;simp only[Act.put,Zb,Zc,Zd];refine sX 9 (some 24) rfl rfl rfl fun K z=>?_;go_simp
    refine z.out (.pointer (some ⟨B,3,none⟩)) _ y (fun y=>?_);clear z K;simp only[Act.put,Zb,Zc,Zd];refine Aa none rfl rfl rfl fun K z=>?_;go_simp
    refine z.out undef _ ?_;clear z K;simp only[Act.put];have m8:Mod (w5.setCell ⟨B,3,none⟩ (.slice E (n3+1) I)) w0 _:=zbk;generalize w5.setCell ⟨B,3,none⟩ (.slice E (n3+1) I)=w6 at *;simp only[Zb,Zc,Zd]at m8;have m9:Mod w6 w0 (aE B (.cells #[.slice U n0 c0,.slice V n1 c1,.slice Y n2 c2,.slice E (n3+1) I] 131 (0,0))*((ar 44 4 (.slice U n0 c0) n0 (q0.flatMap bi.cells)*(ar 44 4 (.slice V n1 c1) n1 (q1.flatMap bi.cells)*(ar 44 4 (.slice Y n2 c2) n2 (q2.flatMap bi.cells)*ar 44 4 (.slice E (n3+1) I) (n3+1) (q3.flatMap bi.cells++(bi.mk O 3 J M).cells))))*(ar 44 4 (.slice (some ⟨b,o,none⟩) n cF) n (l.flatMap bi.cells)*S))):=Mod.keep m8;clear y m8 m7 m6 mW;go_wp2_with fail
    go_roundg (n-(i+1))
    case measure=>omega
    case rel =>
     obtain⟨e0,e1,e2,e3⟩:=HQ.out;obtain⟨d0,d1,d2,d3⟩:=HN.out;have t0:=HT.out 0;have t1:=HT.out 1;have t2:=HT.out 2;have t3:=HT.out 3;simp only[e0,e1,e2,e3,Int.reduceEq,if_true,if_false]at t0 t1 t2 t3;refine⟨i+1,U,c0,V,c1,Y,c2,E,I,ai,rfl,rfl,?_⟩;simp only[Bs,kJ,t0,t1,t2,t3,Ze,List.length_singleton,Z4,Zp,Yv,ZH,d0,d1,d2,d3,HL.out];exact m9
  ·have aV:i=n:=oMg
   subst aV;have ht:l.take i=l:=Zn (by rw[HL.out];omega);rw[ht]at m4;clear ht hi ai;obtain⟨n0,ae⟩:∃n,(eE 0 l).length=n:=⟨_,rfl⟩;obtain⟨n1,af⟩:∃n,(eE 1 l).length=n:=⟨_,rfl⟩;obtain⟨n2,ag⟩:∃n,(eE 2 l).length=n:=⟨_,rfl⟩;obtain⟨n3,ah⟩:∃n,(eE 3 l).length=n:=⟨_,rfl⟩;simp only[Bs,kJ,ae,af,ag,ah]at m4 ⊢;have HN:=zbj (And.intro ae (And.intro af (And.intro ag ah)));clear ae af ag ah;go_wp2_with fail
   have m5:Mod ((((wr.setCell ⟨B,0,none⟩ (.slice U n0 c0)).setCell ⟨B,1,none⟩ (.slice V n1 c1)).setCell ⟨B,2,none⟩ (.slice Y n2 c2)).setCell ⟨B,3,none⟩ (.slice Z n3 c3)) w0 _:=zbk;simp only[Zb,Zc,Zd,b9]at m5;refine bodyPost_ret (results_cell_row rfl _ _ B 131 _ (0,0) _ rfl (Mod.heap (m:=m5)) Ii rfl (by rw[E0];rfl)) rfl ?_;obtain⟨rfl,rfl,rfl,rfl⟩:=HN.out;exact⟨U,c0,V,c1,Y,c2,Z,c3,rfl,Mod.keep m5⟩
open Go Go.Sl
def ju (l:List ao)(i:Nat):ByteArray:=match l[i]? with | some x=>x.key | none=>jR
theorem kc {l:List ao}{i:Nat}(h:i<l.length):ju l i=l[i].key:=by unfold ju;rw[Zg h]
def grow (l:List ao)(n:Nat):Nat:=if n<l.length/\ju l n=ju l (n-1)then grow l (n+1)else n
termination_by l.length-n
theorem Is {l:List ao}{n:Nat}(h:n<l.length)(e:ju l n=ju l (n-1)):grow l n=grow l (n+1):=by rw[grow,if_pos ⟨h,e⟩]
theorem vA {l:List ao}{n:Nat}(h:¬(n<l.length/\ju l n=ju l (n-1))):grow l n=n:=by rw[grow,if_neg h]
theorem Ir {l:List ao}(k:Nat):∀{n:Nat},l.length-n=k->n<=l.length->n<=grow l n/\grow l n<=l.length:=by
 induction k with
 | zero=>exact fun{n} hk hn=>by rw[vA (fun h=>by have:=h.1;omega)];omega
 | succ k y =>
   exact fun{n} hk hn=>by
    by_cases h:n<l.length/\ju l n=ju l (n-1)
    ·have:=h.1
     have:=y (n:=n+1) oMg oMg;rw[Is h.1 h.2];omega
    ·rw[vA h];omega
def ld (l:List ao):Nat:=grow l (min l.length 1024)
theorem I4 (l:List ao):ld l<=l.length:=(Ir _ rfl (Xq _ _)).2
theorem ww (l:List ao):min l.length 1024<=ld l:=(Ir _ rfl (Xq _ _)).1
theorem qT {l:List ao}(h:l≠[]):0<ld l:=by
 have:=ww l;have:=ZO.2 h;omega
def dl (l:List ao):List (List ao):=if _h:l=[]then []else l.take (ld l)::dl (l.drop (ld l))
termination_by l.length
decreasing_by
 have h:l≠[]:=_h;have:=qT h;have:=ZO.2 h;rw[ZF];omega
theorem jF:dl []=[]:=by rw[dl,dif_pos rfl]
theorem lA {l:List ao}(h:l≠[]):dl l=l.take (ld l)::dl (l.drop (ld l)):=by rw[dl,dif_neg h]
theorem oI:∀(k:Nat){l:List ao},l.length=k->(dl l).flatten=l
 | k,l,hk=>by
   by_cases h:l=[]
   ·subst h;rw[jF];rfl
   ·have hp:=qT h
    have y:=ZO.2 h;rw[lA h,List.flatten_cons,oI (l.drop (ld l)).length rfl,YT]
termination_by k=>k
decreasing_by rw[ZF];omega
theorem og {k:Nat}:∀{l:List ao},l.length=k->∀c∈dl l,c≠[]/\c.Sublist l:=by
 induction k using Nat.strongRecOn with
 | ind k B =>
   intro l E c hc;by_cases h:l=[]
   ·subst h;rw[jF]at hc;cases hc
   ·have hp:=qT h
    have I:=ZO.2 h;rw[lA h]at hc;rcases Zu.1 hc with rfl | hc
    ·refine⟨fun e=>?_,za4 _ _⟩
     have:=congrArg List.length e;rw[Zt,List.length_nil]at this;omega
    ·obtain⟨y,z⟩:=B (l.drop (ld l)).length (by rw[ZF];omega) rfl c hc
     exact⟨y,z.trans (List.drop_sublist _ _)⟩
theorem qV {l:List ao}(z:∀x∈l,fS x)(B:fc l):∀c∈dl l,fV c:=fun c y =>
 ⟨(og rfl c y).1,fun x E=>z x ((og rfl c y).2.subset E),B.sublist (og rfl c y).2⟩
def mI (lv:Int)(num:Nat)(c:List ao):bi:=⟨num,lv,ju c 0,ju c (c.length-1)⟩
def cX (lv:Int):Nat->List (List ao)->List bi
 | _,[]=>[]
 | num,c::cs=>mI lv num c::cX lv (num+1) cs
theorem mJ (lv:Int):∀(a:List (List ao))(num:Nat)(b:List (List ao)),cX lv num (a++b)=cX lv num a++cX lv (num+a.length) b
 | [],num,b=>by simp[cX]
 | c::cs,num,b=>by
   simp only[List.cons_append,cX,mJ lv cs (num+1) b,List.length_cons];rw[show num+1+cs.length=num+(cs.length+1) by omega]
theorem lo (lv:Int):∀(a:List (List ao))(num:Nat),(cX lv num a).length=a.length
 | [],_=>rfl
 | c::cs,num=>by simp[cX,lo lv cs]
def yF (D:aq)(nm:ByteArray)(b:List UInt8)(y:aq):Prop:=∃g,cw D.files g=none/\y={D with now:=cV (cG D.now nm) nm g,files:=(g,⟨b,b.length⟩)::D.files}
inductive qQ:aq->Nat->List (List ao)->aq->Prop where
 | nil (D:aq) (num:Nat):qQ D num [] D
 | cons {D D1 D':aq} {num:Nat} {c:List ao} {cs:List (List ao)} (h:yF D (cY num) (cq c) D1) (t:qQ D1 (num+1) cs D'):qQ D num (c::cs) D'
theorem qQ.snoc {D y z:aq}{num:Nat}{cs:List (List ao)}(h:qQ D num cs y){c:List ao}(p:yF y (cY (num+cs.length)) (cq c) z):qQ D num (cs++[c]) z:=by
 induction h with
 | nil D num=>exact .cons p (.nil _ _)
 | cons q t B=>exact .cons q (B (by rw[List.length_cons,<-YB,Nat.add_right_comm]at p;exact p))
theorem kz {α:Type}(L:List (ByteArray×α))(s:ByteArray):br (cG L s) s=none:=by rw[lD,if_pos rfl]
theorem yF.get {D y:aq}{nm:ByteArray}{b:List UInt8}(h:yF D nm b y):y.size=D.size/\y.sure=D.sure/\Over D y/\(∀s,s≠nm->br y.now s=br D.now s)/\∃g,br y.now nm=some g/\cw y.files g=some ⟨b,b.length⟩:=by
 obtain⟨g,E,rfl⟩:=h;refine⟨rfl,rfl,⟨rfl,fun k f B=>nC E _ k f B⟩,fun s z=>?_,g,?_,?_⟩
 ·show br (cV (cG D.now nm) nm g) s=_
  rw[fN,if_neg z,lD,if_neg z]
 ·show br (cV (cG D.now nm) nm g) nm=_
  rw[fN,if_pos rfl]
 ·simp[cw]
theorem yF.many {D y:aq}{nm:ByteArray}{b:List UInt8}(h:yF D nm b y):y.now.length<=D.now.length+1:=by
 obtain⟨g,z,rfl⟩:=h;show (cV (cG D.now nm) nm g).length≤_;rw[ph (kz _ _),Ze,List.length_singleton];have:=(kT D.now nm).length_le;omega
theorem yF.total {D y:aq}{nm:ByteArray}{b:List UInt8}(z:cJ D)(h:yF D nm b y):eh y.files y.now<=eh D.files D.now+b.length:=by
 obtain⟨g,E,rfl⟩:=h;have B:=tH (D:={D with now:=cG D.now nm}) (f:=⟨b,b.length⟩) (gI z nm) (kz _ _) E;have I:=CC D.files (kT D.now nm);show eh ((g,⟨b,b.length⟩)::D.files) (cV (cG D.now nm) nm g)≤_;rw[B];show eh D.files (cG D.now nm)+b.length≤_;omega
end Go.Proofs.YtdfppjcaelghhaaGreatDoor
