/- Plain lemmas and contracts; the conditions are in each. -/
import Derived.Test.YtdfppjcaelghhaaGreatDoorSortPut
set_option maxRecDepth 8000
set_option maxHeartbeats 16000000
namespace Go.Proofs.YtdfppjcaelghhaaGreatDoor
open Go.RowKit Go.Sl Go.Shelf
attribute [local go_sem] ab bj bh bd Oper.semAt_some
structure yE (l:List ao)(pre:List cQ)(x:cQ)(X:ba):Prop where
 runs:∃rest,cH l=pre.map (·.l)++x.l::rest
 reads:bp X x.A x.l.length x.l
 cap:x.l.length<=x.c
theorem yE.mono {l:List ao}{pre:List cQ}{x:cQ}{X:ba}(Y:ba)(h:yE l pre x X):yE l pre x (Y*X):=⟨h.runs,h.reads.lift (Sub.right _ _ _),h.cap⟩
theorem xV (c:List ao)(cs:List (List ao)):dj (c::cs)=gt (cU c)++dj cs:=by simp[dj]
theorem H7 (pm pb n c:Nat)(B:Option Addr)(l:List ao)(hl:fV l)(aQ:l.length<=4096)(tail:List UInt8)(all:List UInt8)(aa:all=dj (cH l)++tail)(hn:all.length=n)(aS:n<=100000000)(hc:n<=c)(w0:World) :
 Du Tryz.prog w0 250 #[ap pm,ap pb] (fun x:cQ=>#[x.val]) (fun T=>bk T B n (b7 all)) (aE pm (.cells #[.int .i64 (l.length:Int)] 3 (0,0))*aE pb (.cells #[.slice B n c] 67 (0,0))) (fun _=>sC) (fun xs=>xs.map (·.l)=cH l) (fun _=>True) (yE l):=by
 intro yl J Jx W aK hR m;show Calls Tryz.prog 250 #[.func (.yield yl) #[] #[],ap pm,ap pb] W _;have Z:=zbj aa;have Hn:=zbj hn;have aH:Hid (∀d∈cH l,sk d/\d.length<=16):=fun d hd=>⟨yR hl hd,(jV hd).2.1⟩;have aB:Hid ((cH l).flatten.length=l.length):=by show _=_;rw[qU]
 clear aa hn hl;go_enter Tryz.func250,Tryz.ntmps250
 go_wp2_with fail
 go_loopg [] (cH l).length (fun gk wr=>∃(pre:List cQ)(cs:List (List ao))(Br:Option Addr)(z E many:Nat),gk=cs.length/\z<=E/\z<=100000000/\many<=4096/\Hid (cH l=pre.map (·.l)++cs)/\Hid ((dj cs++tail).length=z)/\Hid (cs.flatten.length=many)/\Hid (∀SS,bk SS B n (b7 all)->bk SS Br z (b7 (dj cs++tail))) /\
  Mod wr w0 (J pre*(aE pm (.cells #[.int .i64 (many:Int)] 3 (0,0))*aE pb (.cells #[.slice Br z E] 67 (0,0)))))
 case atStart=>exact⟨[],cH l,B,n,c,l.length,rfl,hc,aS,aQ,rfl,by show _=_;rw[<-Z.out];exact Hn.out,aB.out,(fun SS h=>by rw[<-Z.out];exact h),m⟩
 case round =>
  obtain⟨pre,cs,Br,z,E,many,aP,ax,aU,aR,M,aG,I,aj,m2⟩:=hrel
  cases cs with
  | nil =>
    have h0:many=0:=by rw[<-I.out];rfl
    subst h0;have ai:Hid (pre.map (·.l)=cH l):=by show _=_;rw[M.out,ZH]
    go_wp2_with fail
    go_end0
    exact⟨⟨_,rfl⟩,.inl ⟨pre,ai.out,Mod.to (m:=Mod.lP (m:=m2)) (eI _).symm⟩⟩
  | cons d cs =>
    obtain⟨U,ay⟩:=aH.out d (by rw[M.out];simp);have aY:=U.ne;have aL:=uY U ay;have af:0<(cU d).length:=by unfold cU;simp[sj];omega
    have ag:many=d.length+cs.flatten.length:=by rw[<-I.out,List.flatten_cons,Ze]
    have bg:(0:Int)<(many:Int):=oMg
    have ah:dj (d::cs)++tail=gt (cU d)++(dj cs++tail):=by rw[xV,Zr]
    have Y:z=(cU d).length+8+(dj cs++tail).length:=by rw[<-aG.out,ah,Ze,jM];omega
    have rJ:=aj.out _ (aK pre);rw[ah]at rJ;obtain⟨ad,rfl,K,_⟩:=cP m2 (ct (S:=J pre) zbk rJ) oMg;obtain⟨b,o,sp⟩:=ad;simp only at K;subst K;have HG:Hid (∀(u:World)(G:ba),Mod u w0 (J pre*G)->Calls Tryz.prog 251 #[.slice (some ⟨b,o,none⟩) z E] u fun e w'=>∃A' c',e=.returned (.tuple #[.slice A' (cU d).length c',.int .i64 ((8+(cU d).length:Nat):Int),.int .i64 0])/\Mod w' w0 (ar 5 1 (.slice A' (cU d).length c') (cU d).length (b7 (cU d))*(J pre*G))):=fun u G mu=>Ge b o z E (cU d) (dj cs++tail) af oMg oMg ax u w0 _ mu (ct (S:=J pre) zbk rJ);obtain⟨y,V⟩:∃y,(cU d).length=y:=⟨_,rfl⟩;have HB:Hid (∀(b1 o1 c1:Nat)(u:World)(G:ba),y<=c1->Mod u w0 G->bk G (some ⟨b1,o1,none⟩) y (b7 (cU d))->Calls Tryz.prog 252 #[.slice (some ⟨b1,o1,none⟩) y c1] u fun e w'=>∃A' c',e=.returned (.tuple #[.slice A' d.length c',.int .i64 0])/\d.length<=c'/\Mod w' w0 (ar 71 4 (.slice A' d.length c') d.length (d.flatMap ao.cells)*G)):=fun b1 o1 c1 u G aM mu ru=>Fy b1 o1 y c1 d U V.symm aM u w0 G mu ru;rw[V]at HG Y af aL;have aF:=zbj ag;have ae:=zbj Y;have aW:=zbj rJ;have aD:=zbj V;clear V U ah Y ag rJ;go_wp2_with (go_at_call 251;refine(HG.out _ _ m2).mono ?_;rintro e w3 ⟨A3,c3,rfl,m3⟩;refine Hid.out ?_)
    refine zbj ?_;obtain⟨aV,aX,e3,aN⟩:=nP m3;injection e3 with aI _ aJ;subst aI aJ;obtain⟨ad,rfl,K,_⟩:=cP m3 (bk.left _ _ _ _ _ (r:=bk.row _ _ _ _ _)) af;obtain⟨b1,o1,sp⟩:=ad;simp only at K;subst K;go_wp2_with (go_at_call 252;refine(HB.out b1 o1 c3 _ _ aN m3 zbk).mono ?_;rintro e w4 ⟨A4,c4,rfl,aO,m4⟩;refine Hid.out ?_)
    refine zbj ?_
    have au:yE l pre ⟨A4,c4,d⟩ (ar 71 4 (.slice A4 d.length c4) d.length (d.flatMap ao.cells)*(ar 5 1 (.slice (some ⟨b1,o1,none⟩) y c3) y (b7 (cU d))*(aE pm (.cells #[.int .i64 (many:Int)] 3 (0,0))*aE pb (.cells #[.slice (some ⟨b,o,none⟩) z E] 67 (0,0))))) :=
     ⟨⟨cs,M.out⟩,⟨rfl,bk.left _ _ _ _ _ (r:=fh (by decide))⟩,aO⟩
    obtain⟨fn,tmps,O,ak,hy,av⟩:=hR pre _ _ w4 au (Mod.to (m:=m4) (by ac_rfl));have hy:(Instr.yield yl #[.slice A4 d.length c4]).run Tryz.prog w4=.ok (.round yl fn tmps O ak) w4:=hy;clear au;go_upto_region 4 with(fail)
    refine(wpIn_wide (n:=6)).1 ?_
    gi_wp2
    refine av.mono ?_;rintro e W3 (⟨rfl,m5⟩ | ⟨rfl,m5⟩)
    ·gi_wp2
     clear av hy hR
     have az:Hid (∀SS,bk SS B n (b7 all)->bk SS (if E=8+y then some ⟨b,o,none⟩else some ⟨b,o+(8+y),none⟩) (z-(8+y)) (b7 (dj cs++tail))):=fun SS h=>by
      have h1:=aj.out SS h;rw[xV,Zr]at h1;have h2:=nO h1 (k:=8+y) (by have:=ae.out;omega) ax;rw[X0 (by rw[jM,aD.out])]at h2
      have e2:(some (⟨b,o,none⟩:Addr)).map (·.add (8+y))=some ⟨b,o+(8+y),none⟩:=by
       show some ((⟨b,o,none⟩:Addr).add (8+y))=_;rw[jl _ _ rfl]
      rw[e2]at h2;exact h2
     have aZ:8+(y:Int)<=(z:Int):=by have:=ae.out;omega
     have bf:(0:Int)<=8+(y:Int):=oMg
     have aT:(z:Int)<=(E:Int):=oMg
     have m6:Mod W3 w0 (aE pm (.cells #[.int .i64 (many:Int)] 3 (0,0))*(aE pb (.cells #[.slice (some ⟨b,o,none⟩) z E] 67 (0,0))*J (pre++[⟨A4,c4,d⟩]))):=Mod.keep m5;clear m5 m4 m3 m2;go_wp2_with fail
     go_region
     generalize (if E=8+y then some (⟨b,o,none⟩:Addr)else some ⟨b,o+(8+y),none⟩)=B2 at *;go_wp2_with fail
     have m7:Mod (((W3.setCell ⟨pb,0,none⟩ (.slice B2 (z-(8+y)) (E-(8+y)))).setCell ⟨pm,0,none⟩ (.int .i64 ((many:Int)-(d.length:Int)))).drew) w0 _:=zbk;simp only[Zb,Zc]at m7;go_roundg cs.length
     case measure=>rw[aP,List.length_cons];omega
     case rel =>
      have ag:=aF.out;have Y:=ae.out;refine⟨pre++[⟨A4,c4,d⟩],cs,B2,z-(8+y),E-(8+y),cs.flatten.length,rfl,oMg,oMg,oMg,?_,?_,rfl,az.out,?_⟩
      ·show _=_
       rw[M.out];simp
      ·show _=_
       omega
      ·rw[show ((cs.flatten.length:Nat):Int)=(many:Int)-(d.length:Int) by omega]
       exact Mod.keep m7
    ·gi_wp2
     go_wp2
     refine bodyPost_ret (results_none rfl _ _ _) rfl ?_;exact⟨⟨_,rfl⟩,.inr ⟨_,trivial,Mod.to (m:=Mod.lP (m:=m5)) (eI _).symm⟩⟩
theorem E4 (A:Option Addr)(n c:Nat)(k:Int)(w w0:World)(S:ba)(m:Mod w w0 S):Calls Tryz.prog 202 #[.slice A n c,.int .i64 k] w fun e y=>∃p q,e=.returned (.func (.func 250) #[] #[ap p,ap q])/\Mod y w0 ((aE p (.cells #[.int .i64 k] 3 (0,0))*aE q (.cells #[.slice A n c] 67 (0,0)))*S):=by
 go_enter Tryz.func202,Tryz.ntmps202
 go_wp2_with fail
 go_ret
 exact⟨_,_,rfl,Mod.keep (zbk:Mod _ w0 _)⟩
def Ou (g:Nat)(S:ba)(o:List ao):ba:=ex fun q:Option Addr×Nat=>aE g (.cells #[.slice q.1 o.length q.2] 59 (0,0))*(ar 71 4 (.slice q.1 o.length q.2) o.length (o.flatMap ao.cells)*S)
theorem Ho (b o n c:Nat)(l:List ao)(hl:fV l)(au:l.length<=4096)(hn:(cq l).length=n)(aH:n<=100000000)(hc:n<=c)(w w0:World)(S:ba)(m:Mod w w0 S)(r:bk S (some ⟨b,o,none⟩) n (b7 (cq l))) :
 Calls Tryz.prog 130 #[.slice (some ⟨b,o,none⟩) n c] w fun e w'=>∃A' c',e=.returned (.tuple #[.slice A' l.length c',.int .i64 0])/\l.length<=c'/\Mod w' w0 (ar 71 4 (.slice A' l.length c') l.length (l.flatMap ao.cells)*S):=by
 have aK:0<l.length:=ZO.2 hl.ne;obtain⟨tail,ai⟩:∃tail,cq l=dj (cH l)++tail:=⟨_,rfl⟩
 obtain⟨hd,ak⟩:∃hd,cq l=hd++ff l.length:=by
  refine⟨dj (cH l)++(gt (indexB (cH l))++(gt (ui (nu l))++(ff (dj (cH l)).length++ff ((dj (cH l)).length+(gt (indexB (cH l))).length)))),?_⟩;unfold cq;simp only[Zr]
 have aG:hd.length=n-4/\12<=n:=by
  have h1:=congrArg List.length ak;rw[Ze,hn]at h1;simp only[ff,List.length_cons,List.length_nil]at h1;refine⟨oMg,?_⟩;rw[<-hn];unfold cq;simp[ff,jM];omega
 have r4:bk S (some ⟨b,o+(n-4),none⟩) 4 (b7 (ff l.length++[])):=by
  have h:=r.part (n-4) 4 oMg
  have e:((b7 (cq l)).drop (n-4)).take 4=b7 (ff l.length++[]):=by
   rw[ak,eC,X0 (by rw[fg,aG.1]),ZH,Zn (by simp[b7,ff])]
  rw[e]at h
  have e2:(some (⟨b,o,none⟩:Addr)).map (·.add (n-4))=some ⟨b,o+(n-4),none⟩:=by
   show some ((⟨b,o,none⟩:Addr).add (n-4))=_;rw[jl _ _ rfl]
  rw[e2]at h;exact h
 obtain⟨q,hq⟩:∃q,n=q+4:=⟨n-4,oMg⟩;subst hq;rw[XG]at r4;have HG:=zbj (fun(I:Nat)(ae:4<=I)(u:World)(G:ba)(hG:Sub G S)(mu:Mod u w0 G)=>ri (some ⟨b,o+q,none⟩) 4 I l.length [] oMg u w0 G mu (ct hG r4) oMg ae);have E:Hid (∀(M:Option Addr)(I:Nat)(u:World)(G:ba),l.length<=I->Mod u w0 G->bp G M l.length l->Calls Tryz.prog 117 #[.slice M l.length I] u fun e w'=>∃A' c' R,e=.returned (.tuple #[.slice A' (cq l).length c',.int .i64 0])/\(cq l).length<=c'/\bk R A' (cq l).length (b7 (cq l))/\Mod w' w0 (R*G)):=fun M I u G ae mu ru=>uM l.length I M l hl au ae u w0 G mu ru;rw[hn]at E
 have HQ:Hid (∀(M:Option Addr)(I:Nat)(u:World)(G:ba),Mod u w0 G->bk G M (q+4) (b7 (cq l))->bk G (some ⟨b,o,none⟩) (q+4) (b7 (cq l))->Calls Tryz.prog 162 #[.slice M (q+4) I,.slice (some ⟨b,o,none⟩) (q+4) c] u fun e w'=>e=.returned (.bool true)/\Mod w' w0 G):=fun M I u G mu r1 r2=>by
  have h:=xh M (some ⟨b,o,none⟩) (q+4) (q+4) I c (cq l) (cq l) u w0 G mu r1 r2;rw[decide_eq_true rfl]at h;exact h
 have aL:¬(q:Int)+4<12:=oMg
 have aP:(0:Int)<=(q:Int):=oMg
 have aO:(q:Int)+4<=(c:Int):=oMg
 have aM:¬c=q:=oMg
 have aJ:min (l.length:Int) 4096=(l.length:Int):=oMg
 have aF:4<=c-q:=oMg
 refine callsIn_wide.1 (callsIn_of_wp_marks (n:=9) Tryz.func130 rfl trivial ?_);simp only[Tryz.ntmps130,Zl,List.length_cons,List.length_nil,Nat.reduceAdd,Nat.reduceSub,YL,Array.replicate_zero,Y6,YR,List.nil_append,List.cons_append]
 gi_wp2_with first
  | (refine⟨trivial,?_⟩;gi_at_call 202;refine(callsIn_wide.2 (E4 _ _ c _ _ w0 _ m1)).mono ?_;rintro e w2 ⟨pm,pb,rfl,J⟩)
  | (refine⟨trivial,?_⟩;gi_at_call 176;refine(callsIn_wide.2 (HG.out (c-q) aF _ _ (by infer_instance) zbk)).mono ?_;rintro e w1 ⟨rfl,m1⟩)
 generalize w.heap.size=B at *
 obtain⟨HR⟩:Nonempty (Hid (∀(pre:List cQ)(Y:ba),bk (Ou B S (pre.map (·.l)).flatten*Y) (some ⟨b,o,none⟩) (q+4) (b7 (cq l)))):=⟨fun pre Y=>ct (S:=S) ⟨fun x hx=>by
  unfold Ou at hx;rw[bo]at hx;obtain⟨q',hq⟩:=zh.1 hx;rw[<-bo]at hq
  exact(zbk:Sub ((aE B (.cells #[.slice q'.1 (pre.map (·.l)).flatten.length q'.2] 59 (0,0))*(ar 71 4 (.slice q'.1 (pre.map (·.l)).flatten.length q'.2) (pre.map (·.l)).flatten.length ((pre.map (·.l)).flatten.flatMap ao.cells)*S))*Y) S).sub x hq⟩ r⟩
 refine sg (gf:=250) (lb:=#[ap pm,ap pb]) rfl (enters_of Tryz.func250 kRf rfl) (fun _ _ _ Y h=>h.mono Y) (H7 pm pb (q+4) c (some ⟨b,o,none⟩) l hl au tail (cq l) ai hn aH hc w0) (fun _=>rfl)
  (fun pre=>Ou B S (pre.map (·.l)).flatten) (fun _ _=>xX False) ?start (fun pre Y=>HR.out pre Y) ?acts ?assign ?body ?done ?stop
 case start =>
  unfold Ou;refine Mod.shut (none,0) (m:=Mod.to (m:=ey (e:=71) (size:=4) J) ?_);show _=(aE B (.cells #[.slice none 0 0] 59 (0,0))*(ar 71 4 (.slice none 0 0) 0 []*S))*_
  ac_rfl
 case acts=>exact fun x=>{tmps:=#[.slice (some ⟨b,o,none⟩) (q+4) c,undef,ap B,.int .i64 0,.int .u32 (l.length:Int),.int .i64 0,x.val,undef,.slice (some ⟨b,o,none⟩) (q+4) c,.int .i64 ((q:Int)+4),.bool false,.tuple #[.int .u32 (l.length:Int),.int .i64 0],.slice (some ⟨b,o,none⟩) (q+4) c,.slice (some ⟨b,o,none⟩) (q+4) c,.int .i64 ((q:Int)+4),.int .i64 (q:Int),.slice (some ⟨b,o+q,none⟩) 4 (c-q),.tuple #[.int .u32 (l.length:Int),.int .i64 0],.int .u32 (l.length:Int),.int .i64 0,.slice (some ⟨b,o,none⟩) (q+4) c,.int .u32 (l.length:Int),.int .i64 (l.length:Int),.int .i64 (l.length:Int),.func (.func 250) #[] #[ap pm,ap pb],x.val,undef,undef,undef,undef,undef,undef,undef,undef,undef,undef,undef,undef,undef,undef,undef,undef,undef],defers:=[]}
 case assign =>
  intro yl x W K hK
  gi_wp2
  exact hK
 case body =>
  intro yl pre x X W hN J;obtain⟨⟨A0,c0⟩,Z⟩:=Mod.open (m:=Mod.to (m:=J) rfl);have hm:x.l∈cH l:=by obtain⟨rest,hr⟩:=hN.runs;rw[hr];simp
  have V:=ZO.2 (jV hm).1
  have y:((pre.map (·.l)).flatten++x.l).length<=4096:=by
   obtain⟨rest,hr⟩:=hN.runs;have h:=qU l;rw[hr,zZ,List.flatten_cons,<-Zr]at h;have h2:=congrArg List.length h;rw[Ze]at h2;omega
  have HO:Hid (((pre++[x]).map (·.l)).flatten=(pre.map (·.l)).flatten++x.l):=by show _=_;simp
  obtain⟨oo,av⟩:∃oo,(pre.map (·.l)).flatten=oo:=⟨_,rfl⟩;rw[av]at Z y HO;obtain⟨xA,xc,xl⟩:=x;simp only at V y HO;have U:=hN.reads;simp only at U;obtain⟨b1,o1,rfl⟩:=gw Z (U.lift zbk) V;have HX:=zbj U;clear av hN hm J U;show Code.wpIn _ _ _ _ _ {tmps:=#[_,_,_,_,_,_,.slice (some ⟨b1,o1,none⟩) xl.length xc,_,_,_,_,_,_,_,_,_,_,_,_,_,_,_,_,_,_,.slice (some ⟨b1,o1,none⟩) xl.length xc,_,_,_,_,_,_,_,_,_,_,_,_,_,_,_,_,_],defers:=[]} _;obtain⟨nx,ah⟩:∃nx,xl.length=nx:=⟨_,rfl⟩;obtain⟨no,ag⟩:∃no,oo.length=no:=⟨_,rfl⟩;rw[Ze]at y;rw[ah]at HX V y ⊢;rw[ag]at Z y;have ay:=zbj (And.intro ah ag);clear ah ag
  gi_wp2_with (gi_at_builtin;refine lj (t:=59) (k:=nx) (c:=xc) (A:=⟨b1,o1,none⟩) (news:=xl.flatMap ao.cells) rfl rfl (Mod.pull (m:=Z) (ar 71 4 (.slice A0 no c0) no (oo.flatMap ao.cells))) rfl rfl (ct (S:=X) zbk HX.out.cells) V (pk xl) (by unfold maxLen;omega) oMg ?_;intro A2 c2 aI aQ)
  have ax:Mod (aI.setCell ⟨B,0,none⟩ (.slice A2 (no+nx) c2)) w0 _:=zbk;simp only[Zb,Zc]at ax;show Mod _ w0 (Ou B S ((pre++[({A:=some ⟨b1,o1,none⟩,c:=xc,l:=xl}:cQ)]).map (·.l)).flatten*X);obtain⟨q1,q2⟩:=ay.out;rw[HO.out];unfold Ou;rw[Z4,Ze,q1,q2];refine Mod.shut (A2,c2) (m:=?_);exact Mod.keep ax
 case done =>
  intro D xs W hS J;rw[eI,ii,hS,qU]at J;obtain⟨⟨A',c'⟩,Z⟩:=Mod.open (m:=Mod.to (m:=J) rfl);obtain⟨z,O⟩:∃z,l.length=z:=⟨_,rfl⟩;have aa:=zbj O;rw[O]at Z E;have m4:Mod W w0 (ar 71 4 (.slice A' z c') z (l.flatMap ao.cells)*(aE B (.cells #[.slice A' z c'] 59 (0,0))*(S*aE D (.deferred (some []))))):=Mod.to (m:=Z) (by ac_rfl);obtain⟨A9,c9,e9,aj⟩:=nP m4;injection e9 with aB _ aD;subst aB aD;have HE:Hid (bp (ar 71 4 (.slice A' z c') z (l.flatMap ao.cells)) A' z l):=⟨O,fh (by decide)⟩;have az:=zbj r;clear O J Z m1 m hS r r4;go_wp2
  gi_wp2_with (refine⟨trivial,?_⟩;gi_at_call 117;refine(callsIn_wide.2 (E.out A' c' _ _ aj m4 (HE.out.lift zbk))).mono ?_;rintro e w5 ⟨A5,c5,R5,rfl,aN,r5,m5⟩;refine Hid.out ?_)
  refine zbj ?_
  gi_wp2_with (refine⟨trivial,?_⟩;gi_at_call 162;refine(callsIn_wide.2 (HQ.out A5 c5 _ _ m5 (ct (S:=R5) zbk r5) (ct (S:=S) zbk az.out))).mono ?_;rintro e w6 ⟨rfl,m6⟩)
  have m7:Mod (w6.setCell ⟨B,0,none⟩ (.slice A' z c')) w0 _:=zbk;simp only[Zb,Zc]at m7;have hD:(w6.setCell ⟨B,0,none⟩ (.slice A' z c')).heap[D]?=some (.deferred (some [])):=g5 (m:=m7) zbk;refine⟨by simp,.inl ⟨_,_,rfl,run_takeDeferred hD,?_⟩⟩;have m8:Mod ((w6.setCell ⟨B,0,none⟩ (.slice A' z c')).putObj D (.deferred none)) w0 _:=Mod.putObj (m:=m7) (t:=zbk) _;generalize (w6.setCell ⟨B,0,none⟩ (.slice A' z c')).putObj D (.deferred none)=W2 at *;have af:W2.cell? ⟨B,0,none⟩=some (.slice A' z c'):=Za;refine⟨.tuple #[.slice A' z c',.int .i64 0],by simp[results,asAddr,loadVar,af,Tryz.f130],?_⟩;exact⟨A',c',by rw[aa.out],by rw[aa.out];exact aj,by rw[aa.out];exact Mod.keep m8⟩
 case stop =>
  intro D c' pre W _ J;rw[eI,ii]at J;exact(Mod.qD (m:=J)).1.elim
end Go.Proofs.YtdfppjcaelghhaaGreatDoor
