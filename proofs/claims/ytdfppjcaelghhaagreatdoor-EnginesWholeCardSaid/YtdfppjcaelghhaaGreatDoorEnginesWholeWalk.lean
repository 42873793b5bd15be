/- Plain lemmas and contracts; the conditions are in each. -/
import Derived.Test.YtdfppjcaelghhaaGreatDoorEnOp2
import Derived.Test.YtdfppjcaelghhaaGreatDoorLawPG
namespace Go.Proofs.YtdfppjcaelghhaaGreatDoor
open Go Go.Sl
section
variable {v:eN}{B N n0:Nat}
theorem cv.DN (h:cv v B N n0):v.ws.flatten.Pairwise fun a b=>¬eW a b:=by
 have E:=h.cont.DN;unfold eN.all at E;exact h.tab.pairwise (Yf.1 E).1 fun z y=>z ⟨y.1.symm,y.2.1.symm,y.2.2.symm⟩
theorem cv.inW (h:cv v B N n0):∀x∈v.ws.flatten,x∈v.W:=fun x y=>h.cont.sub x (ZN _ (h.tab.mem_iff.2 y))
theorem cv.writes (h:cv v B N n0)(hB:B<=1000000)(i:Nat):fM (v.ws.take i) v.k.seq:=by
 have E:=h.tab.length_eq;have M:=h.small
 have Y:v.ws.length<=v.ws.flatten.length:=by
  have I:∀w∈v.ws,w≠[]:=fun w O=>by
   obtain⟨j,K,rfl⟩:=ZI.1 O;exact(h.BH j K).1
  clear E M;generalize v.ws=ws at *
  induction ws with
  | nil=>simp
  | cons a l Z =>
    have U:=Z fun w O=>I w (Zh _ O);have h2:=ZO.2 (I a (Zj ..));rw[List.flatten_cons,Ze,List.length_cons];omega
 refine⟨fun j K=>?_,?_,?_,?_⟩
 ·have y:j<v.ws.length:=by rw[Zt]at K;omega
  rw[YU];have z:∀x∈v.ws[j],x∈v.ws.flatten:=fun x J=>Y1.2 ⟨_,Zq y,J⟩;refine⟨fun x J=>⟨(h.cont.ok x (h.inW x (z x J))).1,(h.BH j y).2 x J⟩,?_⟩;have hd:(v.ws[j]).Pairwise fun a b=>¬eW a b:=h.DN.sublist (x9 (Zq y));refine hd.imp_of_mem fun{a b} ha hb hab hk=>hab ?_;have V:a.seq=b.seq:=by rw[(h.BH j y).2 a ha,(h.BH j y).2 b hb]
  have:=h.cont.one a (h.inW a (z a ha)) b (h.inW b (z b hb)) hk V;exact⟨hk,V,by rw[this]⟩
 ·have U:((v.ws.take i).flatten).Sublist v.ws.flatten:=by
   conv=>rhs;rw[<-YT i v.ws]
   rw[zZ];exact yz _ _
  have:=U.length_le;omega
 ·rw[Zt];omega
 ·have:=h.zN;have:=h.seq;omega
theorem Qv {k:dk}{ent:Nat->List ao}(y:k.files=[]):lO k ent=[]:=by
 unfold lO;rw[y];rfl
theorem cv.again (h:cv v B N n0)(_:B<=1000000)(O:v.k.files=[])(i:Nat)(hi:i<=v.ws.length)(U:aq)(hD:qb U v.num v.xs v.k v.ent (·∈jL v.k.al)) :
 EnCore (QR U v.num v.xs v.k v.ent (v.ws.take i) ((v.ws.take i).flatten)) B N 4:=by
 have z:((v.ws.take i).flatten).Sublist v.ws.flatten:=by
  conv=>rhs;rw[<-YT i v.ws]
  rw[zZ];exact yz _ _
 have E:=h.DN.sublist z
 have hp:(jd [] (v.ws.take i).flatten).Perm (v.ws.take i).flatten:=by
  have h1:=kD (v.ws.take i).flatten []
  rwa [List.nil_append]at h1
 have aa:(jd [] (v.ws.take i).flatten).length<=v.T.length:=by
  rw[hp.length_eq,h.tab.length_eq];exact z.length_le
 have y:(QR U v.num v.xs v.k v.ent (v.ws.take i) ((v.ws.take i).flatten)).all=jd [] (v.ws.take i).flatten:=by
  show jd [] (v.ws.take i).flatten++lO v.k v.ent=_;rw[Qv O,ZH]
 have K:yi (v.ws.take i).flatten:=vP h.cont.one fun x J=>h.inW x (z.subset J);have Z:=h.BD;have af:=h.seq;have ae:=h.zN;have ag:=h.toEnCore.AK;refine⟨hD,xG _ List.Pairwise.nil (by rw[List.nil_append];exact E),⟨K,fun x J=>?_,fun x J=>?_,?_,fun s _ k u=>?_⟩,?_,?_,?_,?_,?_,h.num,h.next,?_,?_,fun q hq=>(by cases hq),za3⟩
 ·refine⟨(h.cont.ok x (h.inW x (z.subset J))).1,?_⟩
  obtain⟨w,hw,M⟩:=Y1.1 J;obtain⟨j,hj,rfl⟩:=ZI.1 hw;have Y:=hj;rw[Zt]at Y;rw[YU]at M;rw[(h.BH j oMg).2 x M];show _<=v.k.seq+(v.ws.take i).length;omega
 ·rw[y]at J
  exact hp.mem_iff.1 J
 ·rw[y]
  exact hp.symm.pairwise E fun V I=>V ⟨I.1.symm,I.2.1.symm,I.2.2.symm⟩
 ·rw[y]
  exact Mx (fun _=>hp.mem_iff) s k u
 ·rw[y];omega
 ·have:=h.small;show (jd [] (v.ws.take i).flatten).length<=1024;omega
 ·show (eE 0 v.k.files).length<=4;rw[O];exact Zv _
 ·show (eE 1 v.k.files).length<=3;rw[O];exact Zv _
 ·show (eE 3 v.k.files).length<=3;rw[O];exact Zv _
 ·show v.k.seq+(v.ws.take i).length<=B;rw[Zt];omega
 ·show v.k.seq<=v.k.seq+(v.ws.take i).length;omega
end
theorem Ql {v:eN}{B N n0 s:Nat}(h:EnCore v B N n0)(M:s∈v.looks)(K:v.W=[])(y z:ByteArray):jp v s y z=[]:=by
 have E:=h.iG M y z
 cases J:jp v s y z with
 | nil=>rfl
 | cons q l =>
   exfalso;have I:=(E.mem q.1 q.2).1 (by rw[J];exact Zj ..);obtain⟨x,O,_⟩:=I.1;have:=O.mem;rw[K]at this;cases this
theorem QA {v v':eN}{B N n0 I J E:Nat}(h:cv v B N n0)(h':EnCore v' I J E)(M:v.k.files=[])(K:v'.W=v.ws.flatten)(O:v'.seq=v.seq)(y z:ByteArray):jp v' v'.seq y z=jp v v.seq y z:=by
 refine oZ.same (h'.iG (Zj ..) y z) (h.toEnCore.iG (Zj ..) y z) fun k x=>?_;rw[K,O];refine Iff.trans ?_ (h.cont.nh v.seq (Zj ..) k x);unfold eN.all;rw[Qv M,ZH];exact Mx (fun _=>h.tab.symm.mem_iff) v.seq k x
end Go.Proofs.YtdfppjcaelghhaaGreatDoor
namespace Go.Proofs.YtdfppjcaelghhaaGreatDoor
open Go.RowKit Go.Sl Go.Shelf
structure QS (v:eN):Prop where
 rest:cv v 105 32 4
 none:v.k.files=[]
 size:v.D.size=8388608
 zN:v.k.seq=0
 few:v.ws.length<=1
 seq:v.seq=v.ws.length
theorem PO (e p:Nat)(v:eN)(A':Option Addr)(n c':Nat)(l:List lc)(w w0:World)(F:ba)(h:eV e p v w0 F w)(B:cv v 41 0 4)(Y:v.T=[])(hs:v.seq=0)(hz:v.D.size=8388608)(K:ia F A' n l)(hn:n<=40)(aa:n<=c')(tab:fX F)(M:qf F) :
 Calls Tryz.prog 8 #[ap e,.slice A' n c'] w fun O w'=>∃x y:Nat,O=.returned (.tuple #[.int .u64 (x:Int),.int .i64 (y:Int)])/\((x=0/\y=1)\/(x=1/\y=0))/\∃v',QS v'/\eV e p v' w0 F w':=by
 have hk:=B.zN;have ak:=B.BD;by_cases z:n<1\/32<n\/oA l=true
 ·refine(xq e p v A' n c' l w w0 F h K oMg z).mono ?_
  rintro O w' ⟨rfl,U⟩;exact⟨0,1,rfl,.inl ⟨rfl,rfl⟩,v,⟨B.wide oMg oMg,B.Pv (Zv _),hz,oMg,oMg,oMg⟩,U⟩
 ·have U:1<=n:=oMg
  have h2:n<=32:=oMg
  have h3:oA l=false:=by
   cases hb:oA l with
   | false=>rfl
   | true=>exact absurd (.inr (.inr hb)) z
  refine(gG e p v 41 0 A' n c' l w w0 F h B (.inl ⟨hz,oMg⟩) (fun _=>.inr (B.Pv (Zv _))) oMg K U h2 aa h3 tab M).mono ?_;rintro O w' ⟨rfl,v',J,V,h6⟩;have hl:(dp (v.seq+1) l).length<=n:=by rw[<-K.len];exact nA _ _
  have af:=V.still (by rw[Y];decide) (by rw[Y];show 0+_<=1024;omega)
  have Z:v'.T.length=(dp (v.seq+1) l).length:=by
   rw[af.1,Y,(kD _ _).length_eq];simp
  have E:=K.len;have ae:dp (v.seq+1) l≠[]:=Jn fun I=>by rw[I,List.length_nil]at E;omega
  have ag:=ZO.2 ae;have ai:=V.seq;have ah:=J.BD
  have aj:1<=v'.ws.length:=by
   cases hw:v'.ws with
   | nil =>
     exfalso;have:=J.tab.length_eq;rw[hw]at this;rw[Z,zbp,List.length_nil]at this;omega
   | cons a t=>simp
  exact⟨v.seq+1,0,rfl,.inr ⟨oMg,rfl⟩,v',⟨J.wide (Zm _) oMg,J.Pv oMg,V.size.trans hz,oMg,oMg,oMg⟩,h6⟩
theorem P4 (K:Nat)(v:eN)(c:aq)(keep:Nat)(b:Bool)(R:List fI)(y:QS v)(Y:cJ v.D)(hR:jp v v.seq ⟨#[]⟩ zL=R)(l:iO v.D keep b c)(w w0:World)(F:ba)(m:Mod w w0 (bv K c*F))(tab:fX F)(O:qf F) :
 Calls Tryz.prog 19 #[ap K] w fun en w'=>∃(J:Nat)(z:eN)(i:Nat)(M:List fI),en=.returned (.tuple #[ap J,.int .i64 0])/\((i=0/\M=[])\/(i=1/\M=R))/\cv z 145 32 4/\z.seq=i/\jp z i ⟨#[]⟩ zL=M/\eV J K z w0 F w':=by
 obtain⟨hD,i,g,f,hi,hg,hf,Z,hb⟩:=y.rest.failed Y y.none l;have ae:=y.rest.num;have aa:=y.few;refine(PR K v.num v.k c v.xs v.ent (v.ws.take i) ((v.ws.take i).flatten) 105 32 g f w w0 F m tab O hD oMg y.rest.zK y.none hg hf Z hb (y.rest.writes oMg i) (fun D' h'=>y.rest.again oMg y.none i hi D' h') (fun D' h'=>.inl ⟨h'.trans (l.size.trans y.size),oMg⟩) oMg).mono ?_;rintro en w' ⟨J,z,rfl,U,⟨B,_,_,h3,_⟩,h4⟩;have I:(v.ws.take i).length=i:=by rw[Zt];omega
 rw[y.zN,I,ZM]at B;refine⟨J,z,i,jp z i ⟨#[]⟩ zL,rfl,?_,U,B,rfl,h4⟩;by_cases h0:i=0
 ·subst h0
  exact .inl ⟨rfl,Ql U.toEnCore (by rw[<-B];exact Zj ..) (by rw[h3];rfl) _ _⟩
 ·have V:i=1:=oMg
  have E:i=v.ws.length:=oMg
  refine .inr ⟨V,?_⟩;rw[<-hR,<-B];refine QA y.rest U.toEnCore y.none ?_ ?_ _ _
  ·rw[h3,E,Xc]
  ·rw[B,y.seq,E]
end Go.Proofs.YtdfppjcaelghhaaGreatDoor
set_option maxRecDepth 8000
set_option maxHeartbeats 32000000
namespace Go.Proofs.YtdfppjcaelghhaaGreatDoor
open Go.RowKit Go.Sl Go.Shelf
attribute [local go_sem] ab bj bh bd
theorem QF (e p:Nat)(v:eN)(keep:Nat)(b:Bool)(w w0:World)(F:ba)(h:eV e p v w0 F w)(I:keep<=9223372036854775807) :
 Calls Tryz.prog 18 #[ap p,.int .i64 (keep:Int),.bool b] w fun z E=>∃y c,z=.returned (.tuple #[ap y,.int .i64 0])/\iO v.D keep b c/\Mod E w0 (bv y c*F):=by
 obtain⟨Y,K,O,t,V,A,B,U,m⟩:=h;refine(Qa p v.D w w0 _ _ m zbk keep b I keep rfl).mono ?_;rintro z E ⟨y,c,rfl,J,M⟩;exact⟨y,c,rfl,J,Mod.keep M⟩
theorem gV (e p i:Nat)(v:eN)(w w0:World)(F:ba)(h:eV e p v w0 F w)(B:v.seq=i):Calls Tryz.prog 14 #[ap e] w fun z E=>z=.returned (.int .u64 (i:Int))/\eV e p v w0 F E:=by
 have y:=FZ e p v w w0 F h;rw[B]at y;exact y
theorem wa (e p i B:Nat)(v:eN)(R:List fI)(w w0:World)(F:ba)(h:eV e p v w0 F w)(M:cv v B 32 4)(J:B<=1000000)(O:v.seq=i)(K:jp v i ⟨#[]⟩ zL=R)(tab:fX F) :
 Calls Tryz.prog 10 #[ap e,.int .u64 (i:Int),.string ⟨#[]⟩,.string ⟨#[255,255]⟩,.int .i64 1000] w fun z E=>∃A' y,z=.returned (.slice A' R.length R.length)/\Sub y F/\oR y A' R.length R/\eV e p v w0 y E:=by
 refine(Nk e p i v B 32 4 R w w0 F h M oMg oMg J (sr (.inl O.symm)) K tab).mono ?_;rintro z E ⟨A',c',rfl,I⟩;exact⟨A',_,rfl,zbk,(Aj A' c' R).lift zbk,I⟩
theorem iA (a0:Option Addr)(E J:Nat)(kk:Int)(b:Bool)(w w0:World)(F:ba)(m:Mod w w0 F)(hk:(Lit.int .u16 kk).wf=true)(l:List lc)(r0:ia F a0 E l)(hc:E<=J)(tab:fX F)(ag:qf F) :
 Calls Tryz.prog 5 #[.slice a0 E J,.int .u16 kk,.bool b] w fun e w'=>e=.returned (.bool true)/\Mod w' w0 F:=by
 obtain⟨t,rfl,ht⟩:=QP hk;clear hk;have R0:=zbj r0;have T:=zbj tab;have D:=zbj ag;have HL:=zbj (fun(u:World)(G:ba)(mu:Mod u w0 G)(s:Sub G F)=>vK u w0 G mu (tab.lift s) (ag.lift s));have HO:=zbj (tX 8388608 (.inl rfl) w w0 F m tab);clear r0 tab ag m;go_enter Tryz.func5,Tryz.ntmps5
 by_cases aP:40<E
 ·have aI:(E:Int)>40:=oMg
  go_wp2_with (go_at_call 7;refine HO.out.mono ?_;rintro ex w1 ⟨p,e,v0,rfl,hN,z⟩;refine Hid.out ?_)
  have M:=zbj z.mod;clear z hN HO;refine zbj ?_;go_wp2_with (go_at_call 6;refine(HL.out _ F M.out zbk).mono ?_;rintro ex w2 ⟨rfl,m2⟩)
  go_ret
  exact⟨rfl,m2⟩
 ·have aI:¬(E:Int)>40:=oMg
  go_wp2_with (go_at_call 7;refine HO.out.mono ?_;rintro ex w1 ⟨p,e,v0,rfl,hN,z⟩;refine Hid.out ?_)
  have HN:=zbj hN;have B:=zbj z;clear z hN HO;refine zbj ?_;go_wp2_with (go_at_call 17;refine(DU e p v0 41 0 4 _ w0 F B.out HN.out.rest).mono ?_;rintro ex w2 ⟨rfl,v1,ax,Y,z⟩;refine Hid.out ?_)
  clear B;have B:=zbj z;have ak:=zbj ax;have HT:=zbj (Y.T.trans HN.out.T);have HS:=zbj (Y.seq.trans HN.out.seq);have HZ:=zbj (Y.size.trans HN.out.size);clear z ax Y HN;refine zbj ?_;go_wp2_with (go_at_call 8;refine(PO e p v1 a0 E J l _ w0 F B.out ak.out HT.out HS.out HZ.out R0.out oMg hc T.out D.out).mono ?_;rintro ex w3 ⟨x,y,rfl,aD,v2,Z,z⟩;refine Hid.out ?_)
  clear B;have B:=zbj z;have HV:=zbj Z;have af:=zbj aD;clear z Z aD ak HT HS HZ;obtain⟨sq,ah⟩:∃sq,v2.seq=sq:=⟨_,rfl⟩;obtain⟨R,hR⟩:∃R,jp v2 sq ⟨#[]⟩ zL=R:=⟨_,rfl⟩;have ae:=zbj ah;have HR:=zbj hR;have aL:R.length<=32:=by rw[<-hR];exact HV.out.rest.toEnCore.IL sq _ _
  have aR:sq<=105:=by rw[<-ah];have:=HV.out.rest.seq;omega
  have aU:x<=1:=by have:=af.out;omega
  have aV:y<=1:=by have:=af.out;omega
  clear ah hR;refine zbj ?_;go_wp2_with (go_at_call 14;refine(gV e p sq v2 _ w0 F B.out ae.out).mono ?_;rintro ex w4 ⟨rfl,z⟩;refine Hid.out ?_)
  clear B;have B:=zbj z;clear z;refine zbj ?_;go_wp2_with (go_at_call 10;refine(wa e p sq 105 v2 R _ w0 F B.out HV.out.rest oMg ae.out HR.out T.out).mono ?_;rintro ex w5 ⟨A2,F1,rfl,K,az,z⟩;refine Hid.out ?_)
  clear B;have B:=zbj z;have aG:=zbj az;have aj:=zbj z.ok;clear z az;refine zbj ?_;go_wp2_with (go_at_call 18;refine(QF e p v2 t b _ w0 F1 B.out oMg).mono ?_;rintro ex w6 ⟨p',c,rfl,hl,z⟩;refine Hid.out ?_)
  clear B;have M:=zbj z;have ai:=zbj hl;clear z hl;refine zbj ?_;go_wp2_with (go_at_call 19;refine(P4 p' v2 c t b R HV.out aj.out (by rw[ae.out];exact HR.out) ai.out _ w0 F1 M.out (T.out.lift K) (D.out.lift K)).mono ?_;rintro ex w7 ⟨e2,v3,i,R2,rfl,hi,ay,aB,av,z⟩;refine Hid.out ?_)
  clear M ai aj;have B:=zbj z;have HI:=zbj hi;have aH:=zbj ay;have O:=zbj aB;have aF:=zbj av;have aS:i<=1:=by rcases hi with h | h <;> omega
  clear z hi ay aB av;refine zbj ?_;go_upto_region 10 with fail
  go_cut [72]from 59 to 73 (fun aN wx=>aN=.bool false/\eV e2 p' v3 w0 F1 wx)
  case first =>
   rcases af.out with⟨rfl,rfl⟩ | ⟨rfl,rfl⟩
   ·go_wp2_with fail
    go_meet
    exact⟨rfl,B.out⟩
   ·go_wp2_with fail
    go_meet
    exact⟨rfl,B.out⟩
  case rest =>
   obtain⟨rfl,z⟩:=hcut;clear B;have B:=zbj z;clear z;go_wp2_with (go_at_call 14;refine(gV e2 p' i v3 _ w0 F1 B.out O.out).mono ?_;rintro ex w8 ⟨rfl,z⟩;refine Hid.out ?_)
   clear B;have B:=zbj z;clear z;refine zbj ?_;go_wp2_with (go_at_call 10;refine(wa e2 p' i 145 v3 R2 _ w0 F1 B.out aH.out oMg O.out aF.out (T.out.lift K)).mono ?_;rintro ex w9 ⟨A3,F2,rfl,aM,aa,z⟩;refine Hid.out ?_)
   clear B;have B:=zbj z;have au:=zbj aa;clear z aa;refine zbj ?_;go_wp2_with (go_at_call 14;refine(gV e2 p' i v3 _ w0 F2 B.out O.out).mono ?_;rintro ex aW ⟨rfl,z⟩;refine Hid.out ?_)
   clear B;rcases HI.out with⟨aJ,U⟩ | ⟨aJ,U⟩
   ·have aK:(i:Int)=0:=oMg
    obtain⟨n2,V⟩:∃n2,R2.length=n2:=⟨_,rfl⟩;have aT:(n2:Int)=0:=by rw[U]at V;rw[<-V];rfl
    rw[V];have M:=zbj (Mod.sub F (m:=Mod.sub F1 (m:=z.mod)));clear z V U;refine zbj ?_;go_wp2_with (go_at_call 6;refine(HL.out _ F M.out zbk).mono ?_;rintro ex aO ⟨rfl,m2⟩)
    go_ret
    exact⟨rfl,m2⟩
   ·have aK:¬(i:Int)=0:=oMg
    have aQ:(i:Int)=1:=oMg
    have B:=zbj z;subst U;clear z;refine zbj ?_;go_wp2_with (go_at_call 14;refine(gV e2 p' i v3 _ w0 F2 B.out O.out).mono ?_;rintro ex aO ⟨rfl,z⟩;refine Hid.out ?_)
    clear B;have I:=zbj (EV z au.out (aG.out.lift zbk) oMg R2.length R2.length);clear z;refine zbj ?_;go_wp2_with (go_at_call 12;refine I.out.mono ?_;rintro ex aX ⟨rfl,z⟩;refine Hid.out ?_)
    have M:=zbj (Mod.sub F (m:=Mod.sub F1 (m:=z.mod)));clear z I;refine zbj ?_;go_wp2_with (go_at_call 6;refine(HL.out _ F M.out zbk).mono ?_;rintro ex aY ⟨rfl,m2⟩)
    go_ret
    exact⟨rfl,m2⟩
end Go.Proofs.YtdfppjcaelghhaaGreatDoor
