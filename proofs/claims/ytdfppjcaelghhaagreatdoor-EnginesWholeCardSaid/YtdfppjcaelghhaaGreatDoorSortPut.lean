/- Plain lemmas and contracts; the conditions are in each. -/
import Derived.Test.YtdfppjcaelghhaaGreatDoorEnEG
set_option maxHeartbeats 16000000
set_option maxRecDepth 8000
namespace Go.Proofs.YtdfppjcaelghhaaGreatDoor
open Go.RowKit Go.Sl Go.Shelf
instance NL:wl Tryz.prog 103 9 16:=⟨by kernel_rfl,by kernel_rfl⟩
attribute [local go_sem] ab bj bh bd Oper.semAt_some
theorem FJ (A:Option Addr)(n c:Nat)(w w0:World)(S:ba)(m:Mod w w0 S):Calls Tryz.prog 170 #[.slice A n c,.int .i64 16] w fun e y=>∃p q,e=.returned (.func (.func 229) #[] #[ap p,ap q])/\Mod y w0 ((aE p (.cells #[.slice A n c] 59 (0,0))*aE q (.cells #[.int .i64 16] 3 (0,0)))*S):=by
 go_enter Tryz.func170,Tryz.ntmps170
 go_wp2_with fail
 go_ret
 exact⟨_,_,rfl,Mod.keep (zbk:Mod _ w0 _)⟩
theorem FK (A:Option Addr)(n c:Nat)(z:∀ad,A=some ad->ad.spot=none)(y:A=none->n=0/\c=0)(hn:n<=c)(I:c<=maxLen)(w:World) :
 Calls Tryz.prog 175 #[.slice A n c] w fun e B=>e=.returned (.slice A n n)/\B=w:=by
 have E:(n:Int)<=(c:Int):=oMg
 cases A with
 | none =>
   obtain⟨rfl,rfl⟩:=y rfl;go_enter Tryz.func175,Tryz.ntmps175
   go_wp2_with fail
   go_ret
   exact⟨rfl,rfl⟩
 | some ad =>
   obtain⟨g,o,J⟩:=ad;have h:=z _ rfl;simp only at h;subst h;clear z y;go_enter Tryz.func175,Tryz.ntmps175
   go_wp2_with fail
   go_ret
   exact⟨rfl,rfl⟩
theorem I7 {w w0:World}{F:ba}(A:Option Addr)(n c:Nat)(xs:List Value)(m:Mod w w0 (ar 5 1 (.slice A n c) n xs*F)):Calls Tryz.prog 175 #[.slice A n c] w fun e B=>e=.returned (.slice A n n)/\Mod B w0 (ar 5 1 (.slice A n c) n xs*F):=by
 have J:=(fW m).2;refine(FK A n c (fun ad h=>?_) (fun h=>?_) ?_ ?_ w).mono fun e B h=>⟨h.1,h.2▸m⟩
 all_goals rcases J with⟨y,z⟩ | ⟨g,cap,E,y,_,_,z,I,_⟩
 all_goals injection y with e1 e2 e3
 ·rw[e1]at h;cases h
 ·rw[e1]at h;injection h with h;rw[<-h]
 ·exact⟨z,e3⟩
 ·rw[e1]at h;cases h
 ·omega
 ·omega
 ·rw[e3];exact Zv _
 ·rw[e3];exact I
theorem FE {g i:Nat}{cs:Array Value}{t:TypeId}{fr:Nat×Nat}{v:Value}(h:cs[i]?=some v):bw (aE g (.cells cs t fr)) g i v:=⟨fun x y=>⟨cs,t,fr,by rw[y];simp[Hp.one],h⟩⟩
def OW (y z:Nat)(S:ba)(cs:List (List ao)):ba:=ex fun q:(Option Addr×Nat)×(Option Addr×Nat) =>
 aE y (.cells #[.int .i64 (cs.length:Int),.slice q.1.1 (iz 0 cs).length q.1.2,.slice q.2.1 (dj cs).length q.2.2,.slice none 0 0] 241 (0,0))*(ar 5 1 (.slice q.1.1 (iz 0 cs).length q.1.2) (iz 0 cs).length (b7 (iz 0 cs))*(ar 5 1 (.slice q.2.1 (dj cs).length q.2.2) (dj cs).length (b7 (dj cs))*(aE z (.cells #[ap y] 237 (0,0))*S)))
theorem uM (N c:Nat)(A:Option Addr)(l:List ao)(hl:fV l)(hN:N<=4096)(hc:N<=c)(w w0:World)(S:ba)(m:Mod w w0 S)(r:bp S A N l) :
 Calls Tryz.prog 117 #[.slice A N c] w fun e w'=>∃A' c' R,e=.returned (.tuple #[.slice A' (cq l).length c',.int .i64 0])/\(cq l).length<=c'/\bk R A' (cq l).length (b7 (cq l))/\Mod w' w0 (R*S):=by
 have bH:=r.len;have cz:0<l.length:=ZO.2 hl.ne;have HM:=zbj (fun(u:World)(mu:Mod u w0 S)=>Hu N c A l cz hl.ok hl.rise oMg u w0 S mu r)
 have HB:Hid (∀(pre:List cQ)(x:cQ),Fw A N l pre x->∀(u:World)(G:ba),Sub G S->Mod u w0 G->Calls Tryz.prog 171 #[.slice x.A x.l.length x.c] u fun e w'=>∃A' c',e=.returned (.tuple #[.slice A' (cU x.l).length c',.int .i64 0])/\Mod w' w0 (ar 5 1 (.slice A' (cU x.l).length c') (cU x.l).length (b7 (cU x.l))*G)):=fun pre x hx u G hG mu=>by
  have hm:x.l∈cH l:=by obtain⟨rest,hr⟩:=hx.runs;rw[hr];simp
  exact yN x.l.length x.c x.A x.l (yR hl hm) u w0 G mu (hx.reads G (r.lift hG))
 refine callsIn_wide.1 (callsIn_of_wp_marks (n:=9) Tryz.func117 rfl trivial ?_);simp only[Tryz.ntmps117,Zl,List.length_cons,List.length_nil,Nat.reduceAdd,Nat.reduceSub,YL,Array.replicate_zero,Y6,YR,List.nil_append,List.cons_append];have ek:¬(4096:Int)<(N:Int):=oMg
 gi_wp2_with first
  | (refine⟨trivial,?_⟩;gi_at_call 170;refine(callsIn_wide.2 (FJ A N c _ w0 _ zbk)).mono ?_;rintro e w2 ⟨p,q,rfl,m2⟩)
  | (refine⟨trivial,?_⟩;gi_at_call 169;refine(callsIn_wide.2 (HM.out _ m)).mono ?_;rintro e w1 ⟨rfl,m1⟩)
 generalize w1.heap.size=B at *
 refine lX (gf:=229) (lb:=#[ap p,ap q]) rfl (enters_of Tryz.func229 kRf rfl) (I6 p q N c A l bH oMg hc w0) (fun _=>rfl)
  (fun pre=>OW B (B+1) S (pre.map (·.l))) (fun _ _=>xX False) ?start (fun pre Y=>?reads) ?acts ?assign ?body ?done ?stop
 case reads=>exact r.lift (by unfold OW;exact⟨fun x hx=>by
  rw[bo]at hx;obtain⟨q',hq⟩:=zh.1 hx;rw[<-bo]at hq
  exact(zbk:Sub (aE B (.cells #[.int .i64 ((pre.map (·.l)).length:Int),.slice q'.1.1 (iz 0 (pre.map (·.l))).length q'.1.2,.slice q'.2.1 (dj (pre.map (·.l))).length q'.2.2,.slice none 0 0] 241 (0,0))*(ar 5 1 (.slice q'.1.1 (iz 0 (pre.map (·.l))).length q'.1.2) (iz 0 (pre.map (·.l))).length (b7 (iz 0 (pre.map (·.l))))*(ar 5 1 (.slice q'.2.1 (dj (pre.map (·.l))).length q'.2.2) (dj (pre.map (·.l))).length (b7 (dj (pre.map (·.l))))*(aE (B+1) (.cells #[ap B] 237 (0,0))*S)))*Y) S).sub x hq⟩)
 case start =>
  unfold OW;refine Mod.shut ((none,0),(none,0)) (m:=Mod.to (m:=ey (e:=5) (size:=1) (ey (e:=5) (size:=1) m2)) ?_);show _=(aE B (.cells #[.int .i64 0,.slice none 0 0,.slice none 0 0,.slice none 0 0] 241 (0,0))*(ar 5 1 (.slice none 0 0) 0 []*(ar 5 1 (.slice none 0 0) 0 []*(aE (B+1) (.cells #[ap B] 237 (0,0))*S))))*_
  ac_rfl
 case acts=>exact fun x=>{tmps:=#[.slice A N c,undef,.slice none 0 0,.int .i64 0,ap (B+1),x.val,undef,undef,undef,undef,undef,undef,undef,undef,.bool false,.slice A N c,.bool true,.bool false,.bool (decide ((4096:Int)<(N:Int))),.slice A N c,.int .i64 (N:Int),.bool (decide ((4096:Int)<(N:Int))),.agg #[.int .i64 0,.slice none 0 0,.slice none 0 0,.slice none 0 0],ap B,.slice A N c,.func (.func 229) #[] #[ap p,ap q],x.val,undef,undef,undef,undef,undef,undef,undef,undef,undef,undef,undef,undef,undef,undef,undef,undef,undef,undef,undef,undef,undef,undef,undef,undef,undef,undef,undef,undef,undef,undef,undef,undef,undef,undef,undef,undef,undef,undef,undef,undef,undef,undef,undef,undef,undef,undef,undef,undef,undef,undef,undef,undef,undef,undef,undef,undef,undef,undef,undef,undef,undef,undef,undef,undef,undef,undef,undef,undef,undef,undef,undef,undef,undef,undef,undef,undef,undef,undef,undef,undef,undef,undef,undef,undef,undef,undef,undef,undef,undef,undef,undef,undef,undef,undef,undef,undef,undef,undef,undef,undef,undef,undef],defers:=[]}
 case assign =>
  intro yl x W K E
  gi_wp2
  exact E
 case body =>
  intro yl pre x X W hN m2;obtain⟨⟨⟨Am,cm⟩,⟨Ab,cb⟩⟩,m3⟩:=Mod.open (m:=Mod.to (m:=m2) rfl);have hm:x.l∈cH l:=by obtain⟨rest,hr⟩:=hN.runs;rw[hr];simp
  have hP:∀d∈pre.map (·.l),d≠[]/\d.length<=16/\∀y∈d,fS y:=fun d hd=>by
   have dJ:d∈cH l:=by obtain⟨rest,hr⟩:=hN.runs;rw[hr];exact ZN _ hd
   obtain⟨h1,h2,h3⟩:=jV dJ;exact⟨h1,h2,fun y hy=>hl.ok y (h3.subset hy)⟩
  have aB:(pre.map (·.l)).length<=4096:=by
   have h1:=I5 l;obtain⟨rest,hr⟩:=hN.runs;rw[hr,Ze]at h1;omega
  obtain⟨P,av⟩:∃P,pre.map (·.l)=P:=⟨_,rfl⟩;have aU:=uH P fun d hd=>⟨(hP d (av▸hd)).2.1,(hP d (av▸hd)).2.2⟩;rw[av]at hP aB;have aV:=rz P 0 hP oMg;have aY:=yR hl hm;have dH:=uY aY (jV hm).2.1;have aj:=aY.ne;have bW:=(jV hm).2.1;have dG:0<(cU x.l).length:=by unfold cU;simp[sj];omega
  have aQ:=zbj (HB.out pre x hN);have aL:=aY.ok _ (Ci (jV hm).1);have HX:=zbj (hN.reads S r);have cK:=hN.cap;have e1:iz 0 (P++[x.l])=iz 0 P++(ca (dj P).length++(fk (lg x.l).key++(ca (lg x.l).seq++[sK (lg x.l).gone]))):=by rw[xL,ZM]
  have e2:=ED P x.l;have E1:=zbj e1;have E2:=zbj e2;have bS:Hid ((pre++[x]).map (·.l)=P++[x.l]):=by show _=_;rw[ZP,av];rfl
  rw[av]at m3;clear m2 hm aY hN hP av e1 e2;obtain⟨xA,xc,xl⟩:=x;simp only at dH dG aQ aL HX aj cK E1 E2 bS bW;obtain⟨kb,aK⟩:∃kb,(cU xl).length=kb:=⟨_,rfl⟩;obtain⟨J,ae⟩:∃J,(iz 0 P).length=J:=⟨_,rfl⟩;obtain⟨I,aa⟩:∃I,(dj P).length=I:=⟨_,rfl⟩;obtain⟨O,V⟩:∃O,P.length=O:=⟨_,rfl⟩;have HF:Hid (∀(A5:Option Addr)(c5:Nat)(u:World)(G:ba),Mod u w0 (aE B (.cells #[.int .i64 (O:Int),.slice Am J cm,.slice Ab I cb,.slice none 0 0] 241 (0,0))*(ar 5 1 (.slice Ab I cb) I (b7 (dj P))*G))->bk G A5 kb (b7 (cU xl))->Calls Tryz.prog 173 #[ap B,.slice A5 kb c5] u fun e w'=>e=.returned (.int .i64 (I:Int))/\∃A' c',Mod w' w0 (aE B (.cells #[.int .i64 (O:Int),.slice Am J cm,.slice A' (I+(kb+8)) c',.slice none 0 0] 241 (0,0))*(ar 5 1 (.slice A' (I+(kb+8)) c') (I+(kb+8)) (b7 (dj P++gt (cU xl)))*G))):=fun A5 c5 u G mu ru=>rP B _ _ _ Ab I cb (dj P) oMg A5 kb c5 (cU xl) oMg oMg u w0 G mu ru;obtain⟨mk,bI⟩:∃mk,ca (dj P).length++(fk (lg xl).key++(ca (lg xl).seq++[sK (lg xl).gone]))=mk:=⟨_,rfl⟩;have HA:Hid (∀(v2:Value)(u:World)(G:ba),Mod u w0 (aE B (.cells #[.int .i64 (O:Int),.slice Am J cm,v2,.slice none 0 0] 241 (0,0))*(ar 5 1 (.slice Am J cm) J (b7 (iz 0 P))*G))->Calls Tryz.prog 172 #[ap B,.int .i64 (I:Int),.agg #[.string (lg xl).key,.int .u64 ((lg xl).seq:Int),.bool (lg xl).gone]] u fun e w'=>e=.returned (.tuple #[])/\∃A' c',Mod w' w0 (aE B (.cells #[.int .i64 ((O:Int)+1),.slice A' (J+mk.length) c',v2,.slice none 0 0] 241 (0,0))*(ar 5 1 (.slice A' (J+mk.length) c') (J+mk.length) (b7 (iz 0 P++mk))*G))):=fun v2 u G mu=>P3 B O oMg v2 _ Am J cm (iz 0 P) oMg I oMg (lg xl) aL u w0 G mu mk (by rw[<-bI,aa]);rw[bI]at E1;rw[ae,aa,V]at m3;obtain⟨nx,ay⟩:∃nx,xl.length=nx:=⟨_,rfl⟩;rw[ay]at HX aQ aj cK bW;obtain⟨b,o,rfl⟩:=gw m3 (HX.out.lift (by infer_instance)) aj;obtain⟨z0,z1,z2,z3⟩:=jc HX.out (k:=nx-1) (by rw[ay];omega)
  have hz:xl[nx-1]'(by rw[ay];omega)=lg xl:=by
   simp only[<-ay];unfold lg;rw[Zw,Zg oMg];rfl
  clear z3;rw[hz]at z0 z1 z2;obtain⟨af,rfl⟩:∃af,nx=af+1:=⟨nx-1,oMg⟩;simp only[XG]at z0 z1 z2;have dQ:(af:Int)<=16:=oMg
  have ed:IntKind.i64.wrap (af:Int)=(af:Int):=by rw[IntKind.wrap_i64];omega
  have dR:(af:Int)<(af:Int)+1:=oMg
  show Code.wpIn _ _ _ _ _ {tmps:=#[_,_,_,_,_,.slice (some ⟨b,o,none⟩) xl.length xc,_,_,_,_,_,_,_,_,_,_,_,_,_,_,_,_,_,_,_,_,.slice (some ⟨b,o,none⟩) xl.length xc,undef,undef,undef,undef,undef,undef,undef,undef,undef,undef,undef,undef,undef,undef,undef,undef,undef,undef,undef,undef,undef,undef,undef,undef,undef,undef,undef,undef,undef,undef,undef,undef,undef,undef,undef,undef,undef,undef,undef,undef,undef,undef,undef,undef,undef,undef,undef,undef,undef,undef,undef,undef,undef,undef,undef,undef,undef,undef,undef,undef,undef,undef,undef,undef,undef,undef,undef,undef,undef,undef,undef,undef,undef,undef,undef,undef,undef,undef,undef,undef,undef,undef,undef,undef,undef,undef,undef,undef,undef,undef,undef,undef,undef,undef,undef,undef,undef,undef,undef,undef,undef,undef],defers:=[]} _;rw[ay];rw[aK]at aQ;have aS:=zbj (And.intro ae (And.intro aa V));have dD:=zbj aK;clear ay hz bI aK ae aa V
  gi_wp2_with (refine⟨trivial,?_⟩;gi_at_call 171;refine(CallsIn.inRound yl (callsIn_wide.2 (aQ.out _ _ (by infer_instance) m3))).mono ?_;rintro e w3 ⟨A5,c5,rfl,m5⟩)
  refine BG (S:=(fun u=>u.cell? ⟨B+1,0,none⟩=some (ap B)/\u.cell? ⟨b,o+af*4,none⟩=some (.string (lg xl).key)/\u.cell? ⟨b,o+af*4+1,none⟩=some (.int .u64 ((lg xl).seq:Int))/\u.cell? ⟨b,o+af*4+2,none⟩=some (.bool (lg xl).gone))) kRf kRf (fun⟨_,_,h⟩=>h) ⟨Za,bj,bj,bj⟩ (fun z=>?_);simp only[Zl,List.length_cons,List.length_nil,Nat.reduceAdd];obtain⟨W3,hW⟩:∃W3,W3=w3.drew:=⟨_,rfl⟩;have mW:Mod W3 w0 _:=hW▸Mod.drew (m:=m5);rw[<-hW]at z ⊢;clear hW m5 m3;refine Tk.go [(0,some 32),(1,some 33),(2,some 34),(3,some 35),(4,some 36),(6,some 38),(7,some 39),(8,some 40),(9,some 41),(10,some 42),(11,some 43),(12,some 44)] ?_
  repeat (
   refine Tk.gS (v:=?_) rfl (Or.inl ⟨by rfl,?_⟩) z ?_ (fun _ _ _ h=>h);rotate_left 1
   ·(intro u hu;(try dsimp only at hu);obtain⟨aM,aN,bL,eP⟩:=hu;go_simp;try with_reducible rfl)
   simp only[Act.put,Zb,Zc,Zd])
  refine Tk.stop (g7 5 (some 37) rfl rfl rfl fun K E=>?_);go_simp
  refine(HF.out A5 c5 _ (ar 5 1 (.slice A5 kb c5) kb (b7 (cU xl))*(ar 5 1 (.slice Am J cm) J (b7 (iz 0 P))*(aE (B+1) (.cells #[ap B] 237 (0,0))*(S*X)))) (Mod.to (m:=mW) (by ac_rfl)) zbk).mono ?_;rintro e w4 ⟨rfl,A6,c6,m6⟩;refine E.out (.int .i64 (I:Int)) _ ⟨Za,bj,bj,bj⟩ (fun z=>?_);clear E K;simp only[Act.put,Zb,Zc,Zd];refine g7 13 (some 45) rfl rfl rfl fun K E=>?_;go_simp
  refine(HA.out (.slice A6 (I+(kb+8)) c6) _ (ar 5 1 (.slice A6 (I+(kb+8)) c6) (I+(kb+8)) (b7 (dj P++gt (cU xl)))*(ar 5 1 (.slice A5 kb c5) kb (b7 (cU xl))*(aE (B+1) (.cells #[ap B] 237 (0,0))*(S*X)))) (Mod.to (m:=m6) (by ac_rfl))).mono ?_;rintro e w5 ⟨rfl,A7,c7,m7⟩;refine E.out (.tuple #[]) _ ⟨Za,bj,bj,bj⟩ (fun z=>?_);clear E K;simp only[Act.put,Zb,Zc,Zd];refine mH ?_;clear z mW m6
  gi_wp2
  show Mod w5 w0 (OW B (B+1) S ((pre++[({A:=some ⟨b,o,none⟩,c:=xc,l:=xl}:cQ)]).map (·.l))*X);obtain⟨q1,q2,q3⟩:=aS.out;have q4:((P++[xl]).length:Int)=(O:Int)+1:=by rw[Ze,q3];rfl
  rw[bS.out];unfold OW;rw[E1.out,E2.out,q4,Ze,q1,@Ze _ (dj P),q2,jM,dD.out,XR 8 kb];refine Mod.shut ((A7,c7),(A6,c6)) (m:=?_);exact Mod.keep m7
 case done =>
  intro D xs W hS m2;rw[eI,ii,hS]at m2;obtain⟨⟨⟨Am,cm⟩,⟨Ab,cb⟩⟩,m3⟩:=Mod.open (m:=Mod.to (m:=m2) rfl)
  have hP:∀d∈cH l,d≠[]/\d.length<=16/\∀y∈d,fS y:=fun d hd=>by
   obtain⟨h1,h2,h3⟩:=jV hd;exact⟨h1,h2,fun y hy=>hl.ok y (h3.subset hy)⟩
  have aB:(cH l).length<=256:=by have h1:=xm l;omega
  have aU:=uH (cH l) fun d hd=>⟨(hP d hd).2.1,(hP d hd).2.2⟩;have aV:=rz (cH l) 0 hP oMg;have aW:indexB (cH l)=ca (cH l).length++iz 0 (cH l):=rfl;obtain⟨cs,bE⟩:∃cs,cH l=cs:=⟨_,rfl⟩;have dz:=zbj bE;rw[bE]at m3 aB aU aV aW;obtain⟨J,ae⟩:∃J,(iz 0 cs).length=J:=⟨_,rfl⟩;obtain⟨I,aa⟩:∃I,(dj cs).length=I:=⟨_,rfl⟩;obtain⟨O,V⟩:∃O,cs.length=O:=⟨_,rfl⟩;rw[ae,V]at aV;rw[aa,V]at aU;rw[ae,aa,V]at m3;rw[V]at aB aW;have aS:=zbj (And.intro ae (And.intro aa V));have aR:=zbj aW;clear m2 hS hP bE aW ae aa V m1 m HB HM;have R:=zbj r;have m4:Mod W w0 (aE B (.cells #[.int .i64 (O:Int),.slice Am J cm,.slice Ab I cb,.slice none 0 0] 241 (0,0))*(ar 5 1 (.slice Am J cm) J (b7 (iz 0 cs))*(ar 5 1 (.slice Ab I cb) I (b7 (dj cs))*(aE (B+1) (.cells #[ap B] 237 (0,0))*(S*aE D (.deferred (some []))))))):=Mod.to (m:=m3) (by ac_rfl);have m5:=ey (e:=9) (size:=1) m4;clear m3 m4;go_wp2
  refine wpIn_wide.2 ?_;go_wp2_with fail
  go_loopg [48] N (fun gk dU wr=>∃(i M:Nat)(ks:List ByteArray)(Ak:Option Addr)(ck:Nat),i<=N/\gk=N-i/\dU=.int .i64 (i:Int)/\Hid (ks=nu (l.take i))/\Hid (ks.length=M)/\M<=i/\Mod wr w0 (aE B (.cells #[.int .i64 (O:Int),.slice Am J cm,.slice Ab I cb,.slice Ak M ck] 241 (0,0))*(ar 9 1 (.slice Ak M ck) M (ks.map Value.string)*(ar 5 1 (.slice Am J cm) J (b7 (iz 0 cs))*(ar 5 1 (.slice Ab I cb) I (b7 (dj cs))*(aE (B+1) (.cells #[ap B] 237 (0,0))*(S*aE D (.deferred (some [])))))))))
  case atStart=>exact⟨0,0,[],none,0,Zv _,rfl,rfl,rfl,rfl,Zm _,Mod.to (m:=m5) (by simp only[Ye];ac_rfl)⟩
  case round =>
   obtain⟨i,M,ks,Ak,ck,hi,dL,rfl,ak,aT,eF,m6⟩:=hrel;by_cases bZ:i<N
   ·have dN:(i:Int)<(N:Int):=oMg
    have aI:i<l.length:=by rw[bH];exact bZ
    obtain⟨b,o,rfl⟩:=gw m6 (R.out.lift zbk) bZ;obtain⟨x0,x1,x2,x3⟩:=jc R.out aI;have ax:=Gu aI;have cO:l.getD i default=l[i]:=by rw[Zw,Zg aI];rfl
    cases i with
    | zero =>
      rw[if_pos rfl]at ax;have aJ:Hid (ks++[l[0].key]=nu (l.take (0+1))):=by show _=_;rw[ax,ak.out]
      generalize l[0]=x at *;clear ax cO aI;go_wp2_with fail
      have m7:Mod (wr.alloc (.cells #[.string x.key,.int .u64 (x.seq:Int),.bool x.gone,.string x.value] 71)) w0 _:=Mod.alloc (m:=m6) _;go_quiet (fail)
      go_wp2_with fail
      have m8:=Mod.drewN (m:=m7) nq;refine wp_region_noPanic ?_;refine eS 12 (fun u=>u.cell? ⟨B+1,0,none⟩=some (ap B)/\u.cell? ⟨B,3,none⟩=some (.slice Ak M ck)/\u.cell? ⟨wr.heap.size,0,none⟩=some (.string x.key)) kRf ⟨Za,Za,Za⟩ (fun z=>?_);simp only[Zl,List.length_cons,List.length_nil,Nat.reduceAdd];obtain⟨W4,hW⟩:∃W4,W4=((wr.alloc (.cells #[.string x.key,.int .u64 (x.seq:Int),.bool x.gone,.string x.value] 71)).drewN nq).drew:=⟨_,rfl⟩;have mW:Mod W4 w0 _:=hW▸Mod.drew (m:=m8);rw[<-hW]at z ⊢;clear hW m8;refine Tk.go [(0,some 68),(1,some 69),(2,some 70),(3,some 71),(4,some 72),(5,some 73),(6,some 74),(7,some 75)] ?_
      repeat (
       refine Tk.one (v:=?_) rfl (Or.inl ⟨by rfl,?_⟩) z ?_ (fun _ _ _ h=>h);rotate_left 1
       ·(intro u hu;(try dsimp only at hu);obtain⟨aM,aN,bL⟩:=hu;go_simp;try with_reducible rfl)
       simp only[Act.put,Zb,Zc,Zd])
      refine Tk.stop (sX 8 (some 76) rfl rfl rfl fun K E=>?_);refine jN (v:=.string x.key) rfl rfl rfl ?_;have m9:=Mod.alloc (m:=mW) (.cells #[.string x.key] 9) (n:=W4.heap.size) (hn:=⟨rfl⟩);refine E.out (.slice (some ⟨W4.heap.size,0,none⟩) 1 1) _ ⟨Za,Za,Za⟩ (fun z=>?_);clear E K;simp only[Act.put,Zb,Zc,Zd];refine sX 9 (some 77) rfl rfl rfl fun K E=>?_;refine cI (t:=103) (s:=.tmp 72) (x:=.tmp 76) rfl m9 (v:=.slice Ak M ck) (n:=M) rfl (A:=some ⟨W4.heap.size,0,none⟩) (k:=1) (c:=1) rfl (r:=ce rfl rfl) (by simp[Value.oneCell']) (by unfold maxLen;omega) oMg ?_;intro A4 c4 w4 az;refine E.out (.slice A4 (M+1) c4) _ ⟨Za,Za,Za⟩ (fun z=>?_);clear E K;simp only[Act.put,Zb,Zc,Zd];refine sX 10 (some 78) rfl rfl rfl fun K E=>?_;go_simp
      refine E.out (ap B) _ z (fun z=>?_);clear E K;simp only[Act.put,Zb,Zc,Zd];refine sX 11 (some 79) rfl rfl rfl fun K E=>?_;go_simp
      refine E.out (.pointer (some ⟨B,3,none⟩)) _ z (fun z=>?_);clear E K;simp only[Act.put,Zb,Zc,Zd];refine Aa none rfl rfl rfl fun K E=>?_;go_simp
      refine E.out undef _ (NoPanic.normal ?_);clear E K;simp only[Act.put];have ah:Mod (w4.setCell ⟨B,3,none⟩ (.slice A4 (M+1) c4)) w0 _:=zbk;simp only[Zb,Zc,Zd]at ah;clear z m9 az mW;go_wp2_with fail
      go_roundg (N-(0+1))
      case measure=>omega
      case rel=>exact⟨0+1,M+1,ks++[x.key],A4,c4,oMg,rfl,by go_num,aJ.out,by show _=_;rw[Ze,aT.out];rfl,oMg,by simp only[ZP,Zy,Ye];exact Mod.keep ah⟩
    | succ q =>
      have bK:q<l.length:=oMg
      have eO:(q:Int)<(N:Int):=oMg
      obtain⟨y0,y1,y2,y3⟩:=jc R.out (k:=q) bK;have cZ:l.getD (q+1-1) default=l[q]:=by rw[XG,Zw,Zg bK];rfl
      rw[if_neg oMg,cZ]at ax;clear y1 y2 y3 cO cZ;have bV:=zbj ax;clear ax;have eG:(((q:Int)+1==0)=false):=beq_eq_false_iff_ne.2 oMg;have eH:(q:Int)+1-1=(q:Int):=oMg
      rw[show ((q+1:Nat):Int)=(q:Int)+1 by omega];have dY:(q:Int)+1<(N:Int):=oMg
      clear dN;generalize l[q+1]=x at *;generalize l[q]=y at *;clear aI bK;by_cases ag:x.key=y.key
      ·have aJ:Hid (ks=nu (l.take (q+1+1))):=by show _=_;rw[bV.out,if_pos ag,ZH,ak.out]
       have aK:(x.key.toList==y.key.toList)=true:=by rw[ag];simp
       clear ag;go_wp2_with fail
       have m7:Mod (wr.alloc (.cells #[.string x.key,.int .u64 (x.seq:Int),.bool x.gone,.string x.value] 71)) w0 _:=Mod.alloc (m:=m6) _;go_quiet (fail)
       go_wp2_with fail
       go_roundg (N-(q+1+1))
       case measure=>omega
       case rel=>exact⟨q+1+1,M,ks,Ak,ck,oMg,rfl,by go_num,aJ.out,aT.out,oMg,Mod.keep (Mod.drewN (m:=m7) nq)⟩
      ·have aJ:Hid (ks++[x.key]=nu (l.take (q+1+1))):=by show _=_;rw[bV.out,if_neg ag,ak.out]
       have aK:(x.key.toList==y.key.toList)=false:=beq_eq_false_iff_ne.2 fun e=>ag (uB e);clear ag;go_wp2_with fail
       have m7:Mod (wr.alloc (.cells #[.string x.key,.int .u64 (x.seq:Int),.bool x.gone,.string x.value] 71)) w0 _:=Mod.alloc (m:=m6) _;go_quiet (fail)
       go_wp2_with fail
       have m8:=Mod.drewN (m:=m7) nq;refine wp_region_noPanic ?_;refine eS 12 (fun u=>u.cell? ⟨B+1,0,none⟩=some (ap B)/\u.cell? ⟨B,3,none⟩=some (.slice Ak M ck)/\u.cell? ⟨wr.heap.size,0,none⟩=some (.string x.key)) kRf ⟨Za,Za,Za⟩ (fun z=>?_);simp only[Zl,List.length_cons,List.length_nil,Nat.reduceAdd];obtain⟨W4,hW⟩:∃W4,W4=((wr.alloc (.cells #[.string x.key,.int .u64 (x.seq:Int),.bool x.gone,.string x.value] 71)).drewN nq).drew:=⟨_,rfl⟩;have mW:Mod W4 w0 _:=hW▸Mod.drew (m:=m8);rw[<-hW]at z ⊢;clear hW m8;refine Tk.go [(0,some 68),(1,some 69),(2,some 70),(3,some 71),(4,some 72),(5,some 73),(6,some 74),(7,some 75)] ?_
       repeat (
        refine Tk.one (v:=?_) rfl (Or.inl ⟨by rfl,?_⟩) z ?_ (fun _ _ _ h=>h);rotate_left 1
        ·(intro u hu;(try dsimp only at hu);obtain⟨aM,aN,bL⟩:=hu;go_simp;try with_reducible rfl)
        simp only[Act.put,Zb,Zc,Zd])
       refine Tk.stop (sX 8 (some 76) rfl rfl rfl fun K E=>?_);refine jN (v:=.string x.key) rfl rfl rfl ?_;have m9:=Mod.alloc (m:=mW) (.cells #[.string x.key] 9) (n:=W4.heap.size) (hn:=⟨rfl⟩);refine E.out (.slice (some ⟨W4.heap.size,0,none⟩) 1 1) _ ⟨Za,Za,Za⟩ (fun z=>?_);clear E K;simp only[Act.put,Zb,Zc,Zd];refine sX 9 (some 77) rfl rfl rfl fun K E=>?_;refine cI (t:=103) (s:=.tmp 72) (x:=.tmp 76) rfl m9 (v:=.slice Ak M ck) (n:=M) rfl (A:=some ⟨W4.heap.size,0,none⟩) (k:=1) (c:=1) rfl (r:=ce rfl rfl) (by simp[Value.oneCell']) (by unfold maxLen;omega) oMg ?_;intro A4 c4 w4 az;refine E.out (.slice A4 (M+1) c4) _ ⟨Za,Za,Za⟩ (fun z=>?_);clear E K;simp only[Act.put,Zb,Zc,Zd];refine sX 10 (some 78) rfl rfl rfl fun K E=>?_;go_simp
       refine E.out (ap B) _ z (fun z=>?_);clear E K;simp only[Act.put,Zb,Zc,Zd];refine sX 11 (some 79) rfl rfl rfl fun K E=>?_;go_simp
       refine E.out (.pointer (some ⟨B,3,none⟩)) _ z (fun z=>?_);clear E K;simp only[Act.put,Zb,Zc,Zd];refine Aa none rfl rfl rfl fun K E=>?_;go_simp
       refine E.out undef _ (NoPanic.normal ?_);clear E K;simp only[Act.put];have ah:Mod (w4.setCell ⟨B,3,none⟩ (.slice A4 (M+1) c4)) w0 _:=zbk;simp only[Zb,Zc,Zd]at ah;clear z m9 az mW;go_wp2_with fail
       go_roundg (N-(q+1+1))
       case measure=>omega
       case rel=>exact⟨q+1+1,M+1,ks++[x.key],A4,c4,oMg,rfl,by go_num,aJ.out,by show _=_;rw[Ze,aT.out];rfl,oMg,by simp only[ZP,Zy,Ye];exact Mod.keep ah⟩
   ·have dM:i=N:=oMg
    subst dM;rw[Zn oMg]at ak
    have dP:∀k∈ks,k.size<=1000000:=fun k hk=>by
     rw[ak.out]at hk;obtain⟨x,hx,rfl⟩:=JI hk;have:=(hl.ok x hx).size;omega
    obtain⟨vv,aZ⟩:∃vv,ca O=vv:=⟨_,rfl⟩;obtain⟨n1,aX⟩:∃n1,vv.length=n1:=⟨_,rfl⟩;have cB:=cN (n:=O) oMg;have bM:=we O;rw[aZ,aX]at cB bM;rw[aZ]at aR
    have HP:Hid (∀(u:World)(G:ba),Mod u w0 G->Calls Tryz.prog 64 #[.slice none 0 0,.int .u64 (O:Int)] u fun e w'=>∃A' c',e=.returned (.slice A' n1 c')/\Mod w' w0 (ar 5 1 (.slice A' n1 c') n1 (b7 vv)*G)):=fun u G mu=>by
     have h:=kx none 0 0 [] O oMg u w0 G mu (bk.jE none) oMg;rw[aZ,aX,ZM,List.nil_append]at h;exact h
    obtain⟨ib,bF⟩:∃ib,indexB cs=ib:=⟨_,rfl⟩;rw[bF]at aR;obtain⟨ae,aa,V⟩:=aS.out;have bn:ib.length=n1+J:=by rw[aR.out,Ze,aX,ae]
    have bQ:Hid (∀(A5:Option Addr)(c5:Nat)(u:World)(G:ba),Mod u w0 (aE B (.cells #[.int .i64 (O:Int),.slice Am J cm,.slice Ab I cb,.slice Ak M ck] 241 (0,0))*(ar 5 1 (.slice Ab I cb) I (b7 (dj cs))*G))->bk G A5 (n1+J) (b7 ib)->Calls Tryz.prog 173 #[ap B,.slice A5 (n1+J) c5] u fun e w'=>e=.returned (.int .i64 (I:Int))/\∃A' c',Mod w' w0 (aE B (.cells #[.int .i64 (O:Int),.slice Am J cm,.slice A' (I+(n1+J+8)) c',.slice Ak M ck] 241 (0,0))*(ar 5 1 (.slice A' (I+(n1+J+8)) c') (I+(n1+J+8)) (b7 (dj cs++gt ib))*G))):=fun A5 c5 u G mu ru=>rP B _ _ _ Ab I cb (dj cs) oMg A5 (n1+J) c5 ib oMg oMg u w0 G mu ru;have dA:=zbj bF;have dB:=zbj bn;have eQ:IntKind.u64.wrap (O:Int)=(O:Int):=by rw[IntKind.wrap_u64];omega
    have eu:I<=1288704:=oMg
    have eD:J<=13824:=oMg
    clear aZ aX bF bn ae aa V aU aB aV m5;obtain⟨U,aD⟩:∃U,I+(n1+J+8)=U:=⟨_,rfl⟩;rw[aD]at bQ;have bz:=zbj aD;clear aD;go_wp2_with fail
    refine wp_region_noPanic (wp_region_held_drew (S:=fun u=>u.cell? ⟨B+1,0,none⟩=some (ap B)/\u.cell? ⟨B,0,none⟩=some (.int .i64 (O:Int))/\u.cell? ⟨B,1,none⟩=some (.slice Am J cm)) kRf ⟨Za,Za,Za⟩ (fun z=>?_));simp only[Zl,List.length_cons,List.length_nil,Nat.reduceAdd];obtain⟨W4,hW⟩:∃W4,W4=wr.drew:=⟨_,rfl⟩;have mW:Mod W4 w0 _:=hW▸Mod.drew (m:=m6);rw[<-hW]at z ⊢;clear hW m6;refine Tk.go [(0,some 81),(1,some 82),(2,some 83),(3,some 84),(4,some 85),(5,some 86),(6,some 87),(8,some 89),(9,some 90),(10,some 91),(11,some 92),(12,some 93)] ?_
    repeat (
     refine Tk.gS (v:=?_) rfl (Or.inl ⟨by rfl,?_⟩) z ?_ (fun _ _ _ h=>h);rotate_left 1
     ·(intro u hu;(try dsimp only at hu);obtain⟨aM,aN,bL⟩:=hu;go_simp;try with_reducible rfl)
     simp only[Act.put,Zb,Zc,Zd])
    refine Tk.stop (g7 7 (some 88) rfl rfl rfl fun K E=>?_);go_simp
    refine(HP.out _ _ mW).mono ?_;rintro e w4 ⟨A5,c5,rfl,m7⟩;refine E.out (.slice A5 n1 c5) _ ⟨Za,Za,Za⟩ (fun z=>?_);clear E K;simp only[Act.put,Zb,Zc,Zd];refine g7 13 (some 94) rfl rfl rfl fun K E=>?_;refine cI (t:=67) (s:=.tmp 88) (x:=.tmp 93) rfl m7 (v:=.slice A5 n1 c5) (n:=n1) rfl (A:=Am) (k:=J) (c:=cm) rfl (io _) (by unfold maxLen;omega) oMg ?_;intro A6 c6 w5 m8;refine E.out (.slice A6 (n1+J) c6) _ ⟨Za,Za,Za⟩ (fun z=>?_);clear E K;simp only[Act.put,Zb,Zc,Zd];rw[<-eC,<-aR.out]at m8;refine g7 14 (some 95) rfl rfl rfl fun K E=>?_;go_simp
    refine(bQ.out A6 c6 _ (ar 5 1 (.slice A6 (n1+J) c6) (n1+J) (b7 ib)*(ar 9 1 (.slice Ak M ck) M (ks.map Value.string)*(ar 5 1 (.slice Am J cm) J (b7 (iz 0 cs))*(aE (B+1) (.cells #[ap B] 237 (0,0))*(S*aE D (.deferred (some []))))))) (Mod.keep m8) zbk).mono ?_;rintro e w6 ⟨rfl,A7,c7,m9⟩;refine E.out (.int .i64 (I:Int)) _ ⟨Za,Za,Za⟩ (fun z=>?_);clear E K;simp only[Act.put,Zb,Zc,Zd];refine g7 15 (some 10) rfl rfl rfl fun K E=>?_;go_simp
    refine E.out (.int .i64 (I:Int)) _ z (fun z=>?_);clear E K;simp only[Act.put,Zb,Zc,Zd];refine mH (NoPanic.normal ?_);have az:Mod w6 w0 (aE B (.cells #[.int .i64 (O:Int),.slice Am J cm,.slice A7 U c7,.slice Ak M ck] 241 (0,0))*(ar 5 1 (.slice A7 U c7) U (b7 (dj cs++gt ib))*(ar 9 1 (.slice Ak M ck) M (ks.map Value.string)*(aE (B+1) (.cells #[ap B] 237 (0,0))*(S*aE D (.deferred (some []))))))):=Mod.keep m9;clear z mW m7 m8 m9;have dF:kv M+1<=65536:=by unfold kv;omega
    obtain⟨bl,bD⟩:∃bl,ui ks=bl:=⟨_,rfl⟩;obtain⟨kl,bG⟩:∃kl,kv M+1=kl:=⟨_,rfl⟩
    have dw:Hid (∀(u:World)(G:ba),Mod u w0 G->bk G Ak M (ks.map Value.string)->Calls Tryz.prog 174 #[.slice Ak M ck] u fun e w'=>∃A',e=.returned (.slice A' kl kl)/\Mod w' w0 (ar 5 1 (.slice A' kl kl) kl (b7 bl)*G)):=fun u G mu ru=>by
     have h:=FA Ak M ck ks aT.out dP oMg u w0 G mu ru;rw[bD,bG]at h;exact h
    have bR:Hid (∀(A5:Option Addr)(u:World)(G:ba),Mod u w0 (aE B (.cells #[.int .i64 (O:Int),.slice Am J cm,.slice A7 U c7,.slice Ak M ck] 241 (0,0))*(ar 5 1 (.slice A7 U c7) U (b7 (dj cs++gt ib))*G))->bk G A5 kl (b7 bl)->Calls Tryz.prog 173 #[ap B,.slice A5 kl kl] u fun e w'=>e=.returned (.int .i64 (U:Int))/\∃A' c',Mod w' w0 (aE B (.cells #[.int .i64 (O:Int),.slice Am J cm,.slice A' (U+(kl+8)) c',.slice Ak M ck] 241 (0,0))*(ar 5 1 (.slice A' (U+(kl+8)) c') (U+(kl+8)) (b7 (dj cs++gt ib++gt bl))*G))):=fun A5 u G mu ru=>rP B _ _ _ A7 U c7 (dj cs++gt ib) (by have:=bz.out;omega) A5 kl kl bl oMg oMg u w0 G mu ru;obtain⟨b3,aF⟩:∃b3,U+(kl+8)=b3:=⟨_,rfl⟩;rw[aF]at bR;have bP:=zbj (show U+(kl+8)=b3/\kl<=65536 from ⟨aF,oMg⟩);have dn:=zbj (And.intro bD bG);clear bD bG dF aF;go_wp2_with fail
    refine wp_region_noPanic (wp_region_held_drew (S:=fun u=>u.cell? ⟨B+1,0,none⟩=some (ap B)/\u.cell? ⟨B,3,none⟩=some (.slice Ak M ck)) kRf ⟨Za,Za⟩ (fun z=>?_));simp only[Zl,List.length_cons,List.length_nil,Nat.reduceAdd];obtain⟨W5,hW⟩:∃W5,W5=w6.drew:=⟨_,rfl⟩;have mW:Mod W5 w0 _:=hW▸Mod.drew (m:=az);rw[<-hW]at z ⊢;clear hW az;refine Tk.go [(0,some 96),(1,some 97),(2,some 98),(3,some 99),(4,some 100)] ?_
    repeat (
     refine Tk.gS (v:=?_) rfl (Or.inl ⟨by rfl,?_⟩) z ?_ (fun _ _ _ h=>h);rotate_left 1
     ·(intro u hu;(try dsimp only at hu);obtain⟨aM,aN⟩:=hu;go_simp;try with_reducible rfl)
     simp only[Act.put,Zb,Zc,Zd])
    refine Tk.stop (g7 5 (some 101) rfl rfl rfl fun K E=>?_);go_simp
    refine(dw.out _ _ mW zbk).mono ?_;rintro e w7 ⟨A8,rfl,ah⟩;refine E.out (.slice A8 kl kl) _ ⟨Za,Za⟩ (fun z=>?_);clear E K;simp only[Act.put,Zb,Zc,Zd];refine g7 6 (some 102) rfl rfl rfl fun K E=>?_;go_simp
    refine(bR.out A8 _ (ar 5 1 (.slice A8 kl kl) kl (b7 bl)*(aE (B+1) (.cells #[ap B] 237 (0,0))*(ar 9 1 (.slice Ak M ck) M (ks.map Value.string)*(S*aE D (.deferred (some [])))))) (Mod.keep ah) zbk).mono ?_;rintro e w8 ⟨rfl,A9,c9,bN⟩;refine E.out (.int .i64 (U:Int)) _ ⟨Za,Za⟩ (fun z=>?_);clear E K;simp only[Act.put,Zb,Zc,Zd];refine g7 7 (some 11) rfl rfl rfl fun K E=>?_;go_simp
    refine E.out (.int .i64 (U:Int)) _ z (fun z=>?_);clear E K;simp only[Act.put,Zb,Zc,Zd];refine mH (NoPanic.normal ?_);obtain⟨au,aG⟩:∃au,dj cs++gt ib++gt bl=au:=⟨_,rfl⟩;rw[aG]at bN;have dx:=zbj aG;have df:Mod w8 w0 (aE B (.cells #[.int .i64 (O:Int),.slice Am J cm,.slice A9 b3 c9,.slice Ak M ck] 241 (0,0))*(ar 5 1 (.slice A9 b3 c9) b3 (b7 au)*(aE (B+1) (.cells #[ap B] 237 (0,0))*(S*aE D (.deferred (some [])))))):=Mod.keep bN;clear z mW ah bN aG;go_wp2_with fail
    have bO:Mod (w8.alloc (.cells #[.int .i64 (I:Int),.int .i64 (U:Int),.int .i64 (i:Int)] 3)) w0 _:=Mod.alloc (hn:=⟨rfl⟩) (m:=df) _;obtain⟨g8,bY⟩:∃g8,w8.heap.size=g8:=⟨_,rfl⟩;rw[bY]at bO ⊢;clear df bY;generalize w8.alloc (.cells #[.int .i64 (I:Int),.int .i64 (U:Int),.int .i64 (i:Int)] 3)=w9 at *;have dX:b3+100<=10000000:=by have:=bP.out;have:=bz.out;omega
    have bg:I<4294967296/\U<4294967296/\i<4294967296:=by have:=bP.out;omega
    have dm:=zbj bg;clear bg;obtain⟨Z,hZ⟩:∃Z,Z=aE g8 (.cells #[.int .i64 (I:Int),.int .i64 (U:Int),.int .i64 (i:Int)] 3 (0,0)):=⟨_,rfl⟩;have HZ:Hid (∀(k:Nat)(v:Value),(#[Value.int .i64 (I:Int),.int .i64 (U:Int),.int .i64 (i:Int)])[k]?=some v->bw Z g8 k v):=fun k v h=>by rw[hZ];exact FE h
    rw[<-hZ]at bO;clear hZ;go_loopg [109] 3 (fun gk dh dW=>∃(k nb cb:Nat)(AA:Option Addr)(bs:List UInt8),k<=3/\gk=3-k/\dh=.int .i64 (k:Int)/\Hid (bs=au++([I,U,i].take k).flatMap ff)/\nb=b3+4*k/\Mod dW w0 (Z*(aE B (.cells #[.int .i64 (O:Int),.slice Am J cm,.slice AA nb cb,.slice Ak M ck] 241 (0,0))*(ar 5 1 (.slice AA nb cb) nb (b7 bs)*(aE (B+1) (.cells #[ap B] 237 (0,0))*(S*aE D (.deferred (some []))))))))
    case atStart=>exact⟨0,b3,c9,A9,au,oMg,rfl,rfl,by show _=_;simp,rfl,bO⟩
    case round =>
     obtain⟨k,nb,ai,AA,bs,hk,dL,rfl,bT,bJ,bf⟩:=hrel;by_cases cu:k<3
     ·have eB:(k:Int)<3:=oMg
      have dK:∃fv:Nat,bw Z g8 k (.int .i64 (fv:Int))/\fv<4294967296/\([I,U,i].take (k+1)).flatMap ff=([I,U,i].take k).flatMap ff++ff fv:=by
       obtain⟨h1,h2,h3⟩:=dm.out
       match k,cu with
       | 0,_=>exact⟨I,HZ.out _ _ rfl,h1,by simp⟩
       | 1,_=>exact⟨U,HZ.out _ _ rfl,h2,by simp⟩
       | 2,_=>exact⟨i,HZ.out _ _ rfl,h3,by simp⟩
      obtain⟨fv,dI,aH,bX⟩:=dK;have dZ:IntKind.u32.wrap (fv:Int)=(fv:Int):=by rw[IntKind.wrap_u32];omega
      have dC:Hid (∀(u:World)(G:ba),Mod u w0 G->bk G AA nb (b7 bs)->Calls Tryz.prog 126 #[.slice AA nb ai,.int .u32 (fv:Int)] u fun e w'=>∃A' c',e=.returned (.slice A' (nb+4) c')/\Mod w' w0 (ar 5 1 (.slice A' (nb+4) c') (nb+4) (b7 (bs++ff fv))*G)):=fun u G mu ru=>lE AA nb ai bs fv aH u w0 G mu ru oMg;have bU:Hid (bs++ff fv=au++([I,U,i].take (k+1)).flatMap ff):=by show _=_;rw[bX,bT.out,Zr]
      have dE:=zbj bJ;clear aH bX bJ;go_wp2_with fail
      refine wp_region_noPanic ?_;refine eS 10 (fun u=>u.cell? ⟨B+1,0,none⟩=some (ap B)/\u.cell? ⟨B,2,none⟩=some (.slice AA nb ai)) kRf ⟨Za,Za⟩ (fun z=>?_);simp only[Zl,List.length_cons,List.length_nil,Nat.reduceAdd];obtain⟨W5,hW⟩:∃W5,W5=wr.drew:=⟨_,rfl⟩;have mW:Mod W5 w0 _:=hW▸Mod.drew (m:=bf);rw[<-hW]at z ⊢;clear hW bf;refine Tk.go [(0,some 113),(1,some 114),(2,some 115),(3,some 116),(4,some 117),(5,some 118),(6,some 119)] ?_
      repeat (
       refine Tk.one (v:=?_) rfl (Or.inl ⟨by rfl,?_⟩) z ?_ (fun _ _ _ h=>h);rotate_left 1
       ·(intro u hu;(try dsimp only at hu);obtain⟨aM,aN⟩:=hu;go_simp;try with_reducible rfl)
       simp only[Act.put,Zb,Zc,Zd])
      refine Tk.stop (sX 7 (some 120) rfl rfl rfl fun K E=>?_);go_simp
      refine(dC.out _ _ mW zbk).mono ?_;rintro e dV ⟨bu,bC,rfl,aO⟩;refine E.out (.slice bu (nb+4) bC) _ ⟨Za,Za⟩ (fun z=>?_);clear E K;simp only[Act.put,Zb,Zc,Zd];refine sX 8 (some 121) rfl rfl rfl fun K E=>?_;go_simp
      refine E.out (ap B) _ z (fun z=>?_);clear E K;simp only[Act.put,Zb,Zc,Zd];refine sX 9 (some 122) rfl rfl rfl fun K E=>?_;go_simp
      refine E.out (.pointer (some ⟨B,2,none⟩)) _ z (fun z=>?_);clear E K;simp only[Act.put,Zb,Zc,Zd];refine Aa none rfl rfl rfl fun K E=>?_;go_simp
      refine E.out undef _ (NoPanic.normal ?_);clear E K;simp only[Act.put];have aP:Mod (dV.setCell ⟨B,2,none⟩ (.slice bu (nb+4) bC)) w0 _:=zbk;simp only[Zb,Zc,Zd]at aP;clear z aO mW;go_wp2_with fail
      go_roundg (3-(k+1))
      case measure=>omega
      case rel=>exact⟨k+1,nb+4,bC,bu,bs++ff fv,oMg,rfl,by go_num,bU.out,by rw[dE.out];omega,Mod.keep aP⟩
     ·have dO:k=3:=oMg
      subst dO
      have HS:Hid (bs=cq l):=by
       show _=_;rw[bT.out,<-dx.out];unfold cq;obtain⟨h1,h2,h3⟩:=aS.out;obtain⟨h4,h5⟩:=dn.out;simp only[dz.out,dA.out,<-ak.out,h4,h2,bH];simp[jM,dB.out,<-bz.out];exact congrArg ff oMg
      have aO:Mod wr w0 (ar 5 1 (.slice AA nb ai) nb (b7 bs)*(aE B (.cells #[.int .i64 (O:Int),.slice Am J cm,.slice AA nb ai,.slice Ak M ck] 241 (0,0))*(aE (B+1) (.cells #[ap B] 237 (0,0))*(aE D (.deferred (some []))*S)))):=Mod.keep bf
      have bq:(cq l).length=nb:=by
       have h:=(fW aO).1;rw[fg,zas,HS.out]at h;exact h
      have bB:=zbj bq;clear bJ bq bf;go_wp2_with (go_at_call 175;refine(I7 AA nb ai (b7 bs) aO).mono ?_;rintro e di ⟨rfl,aP⟩;refine Hid.out ?_)
      refine zbj ?_;clear aO;go_wp2_with fail
      have hD:di.heap[D]?=some (.deferred (some [])):=g5 (m:=aP) zbk;refine⟨by simp,.inl ⟨_,_,rfl,run_takeDeferred hD,?_⟩⟩;have dS:Mod (di.putObj D (.deferred none)) w0 _:=Mod.putObj (m:=aP) (t:=zbk) _;refine⟨.tuple #[.slice AA nb nb,.int .i64 0],by simp[results,asAddr,loadVar,Tryz.f117],?_⟩;refine⟨AA,nb,ar 5 1 (.slice AA nb ai) nb (b7 bs),by rw[bB.out],by rw[bB.out];first | done | exact Zm _,?_,Mod.keep dS⟩;rw[bB.out,<-HS.out]
      infer_instance
 case stop =>
  intro D c' pre W _ m2;rw[eI,ii]at m2;exact(Mod.qD (m:=m2)).1.elim
end Go.Proofs.YtdfppjcaelghhaaGreatDoor
