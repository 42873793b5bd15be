/- Plain lemmas and contracts; the conditions are in each. -/
import Derived.Test.YtdfppjcaelghhaaGreatDoorEnOG
set_option maxHeartbeats 16000000
set_option maxRecDepth 8000
namespace Go.Sl
open Go Go.RowKit
theorem sf {α:Type}{P:Program}{n:Nat}{g:Operand}{ps:Array Tmp}{assign body:Code}{Q:Exit->Act->World->Prop}{a:Act}{w w0:World}
 {gf:Nat} {lb:Array Value} (hg:a.eval g=.func (.func gf) #[] lb) (eg:∀args w,(callFunc gf args).run P w=.ok (.enter gf args) w)
 {B:α->Array Value} {R:ba->Prop} {K:ba} {K':List α->ba} {Sd Sp:List α->Prop} {N:List α->α->ba->Prop} (O:∀pre x X Y,N pre x X->N pre x (Y*X)) (ah:Du P w0 gf lb B R K K' Sd Sp N) (au:∀x,(B x).size=ps.size)
 (I:List α->ba) (Ix:Code->List α->ba) (m:Mod w w0 (I []*K)) (hR:∀pre Y,R (I pre*Y)) (a₁:α->Nat->Act) (G1:α->Nat->ba)
 (M:∀(l:Nat)(x:α)(W:World)(X:ba)(K:Act->World->Prop),Mod W w0 X->(∀(g:Nat)(W':World),Mod W' w0 (G1 x g*X)->K (a₁ x g) W') ->
   assign.wpIn (Fence.wide.inRound l) 5 P (Exit.then K (fun _ _ _=>False)) {tmps:=(ps.zip (B x)).foldl (fun t (p,v)=>t.setIfInBounds p v) a.tmps,defers:=[]} W)
 (aa:∀(l:Nat)(pre:List α)(x:α)(g:Nat)(X:ba)(W:World),N pre x X->Mod W w0 (I pre*(G1 x g*X))->body.wpIn (Fence.wide.inRound l) 5 P (F0 w0 I Ix X (pre++[x])) (a₁ x g) W)
 (ae:∀(D:Nat)(xs:List α)(W:World),Sd xs->Mod W w0 (aE D (.deferred (some []))*(I xs*K' xs))->Q .normal {a with defers:={target:=.collected D,args:=#[]}::a.defers} W)
 (af:∀(D:Nat)(c:Code)(pre:List α)(W:World),Sp pre->Mod W w0 (aE D (.deferred (some []))*(Ix c pre*K' pre))->c.wpIn Fence.wide n P Q {a with defers:={target:=.collected D,args:=#[]}::a.defers} W) :
 (Code.rangeFunc g ps assign body).wpIn Fence.wide n P Q a w:=by
 refine wpIn_rangeFunc ?_;intro fn aj;obtain⟨rec,z⟩:∃rec:LoopState->Option Code->Loop,rec=fun st pe=>{state:=st,pending:=pe,fn,tmps:=a.tmps,params:=ps,assign,body,defers:=w.heap.size}:=⟨_,rfl⟩;obtain⟨Z,ag⟩:∃Z,(w.alloc (.deferred (some []))).alloc (.loop (rec .ready none))=Z:=⟨_,rfl⟩
 have m1:Mod Z w0 (aE (w.heap.size+1) (.loop (rec .ready none))*(aE w.heap.size (.deferred (some []))*(I []*K))):=by
  rw[<-ag];exact Mod.alloc (m:=Mod.alloc (m:=m) (hn:=⟨rfl⟩) _) (hn:=⟨by simp⟩) _
 refine⟨w.heap.size+1,[{target:=.collected w.heap.size,args:=#[]}],Z,{target:=.fn (.func gf) lb,args:=#[.func (.yield (w.heap.size+1)) #[] #[]]},Z,gf,
  #[.func (.yield (w.heap.size+1)) #[] #[]]++lb,Z,?_,?_,fun _ _=>trivial,?_,fun h=>by simp[Fence.wide]at h,?_⟩
 ·rw[<-ag,z];exact run_enterLoop_outer _ _ _ _ _
 ·simp only[resolve,hg]
  simp[go_sem]
 ·simp[invoke,go_sem,eg]
 ·refine callsIn_wide.2 ((ah (w.heap.size+1)
   (fun pre=>aE (w.heap.size+1) (.loop (rec .ready none))*(aE w.heap.size (.deferred (some []))*I pre))
   (fun pre=>ex fun c=>aE (w.heap.size+1) (.loop (rec .done (some c)))*(aE w.heap.size (.deferred (some []))*Ix c pre)) Z (fun pre=>?_) ?_ ?_).mono ?_)
  ·have:=hR pre (aE (w.heap.size+1) (.loop (rec .ready none))*aE w.heap.size (.deferred (some [])))
   rw[show aE (w.heap.size+1) (.loop (rec .ready none))*(aE w.heap.size (.deferred (some []))*I pre)=I pre*(aE (w.heap.size+1) (.loop (rec .ready none))*aE w.heap.size (.deferred (some [])))from by ac_rfl];exact this
  ·-- one round
   intro pre x X W hN mW;have mW:Mod W w0 (aE (w.heap.size+1) (.loop (rec .ready none))*((aE w.heap.size (.deferred (some []))*I pre)*X)):=by rw[<-bo];exact mW
   have hl:W.heap[w.heap.size+1]?=some (.loop (rec .ready none)):=g5 mW zbk;have hy:=run_yield (P:=P) (args:=B x) hl (by rw[z];exact au x);rw[z]at hy;refine⟨fn,_,assign,body,hy,roundIn_of_wpIn aj (M _ x W _ _ mW (fun g W mW=>⟨_,run_beginRound (show W.heap[w.heap.size+1]?=some (.loop (rec .ready none))from g5 mW zbk) (by rw[z]),?_⟩))⟩;have E:=Mod.putObj (g:=w.heap.size+1) (.loop {rec .ready none with state:=.busy}) (m:=mW);refine wpIn_mono (aa _ pre x g (aE (w.heap.size+1) (.loop {rec .ready none with state:=.busy})*(aE w.heap.size (.deferred (some []))*X)) _ (O _ _ _ _ (O _ _ _ _ hN)) (Mod.to (m:=E) (by simp only[b9];ac_rfl))) ?_
   have fin:∀(y:Option Code)(G:ba)(J:World),Mod J w0 (G*(aE (w.heap.size+1) (.loop {rec .ready none with state:=.busy})*(aE w.heap.size (.deferred (some []))*X))) ->
    (Instr.endRound (w.heap.size+1) y).run P J=.ok (.bool y.isNone) (J.putObj (w.heap.size+1) (.loop (rec (if y.isNone then .ready else .done) y))) /\
    Mod (J.putObj (w.heap.size+1) (.loop (rec (if y.isNone then .ready else .done) y))) w0 ((aE (w.heap.size+1) (.loop (rec (if y.isNone then .ready else .done) y))*(aE w.heap.size (.deferred (some []))*G))*X):=fun y G J V=>by
    have ak:J.heap[w.heap.size+1]?=some (.loop {rec .ready none with state:=.busy}):=g5 V zbk;have U:=Mod.putObj (g:=w.heap.size+1) (.loop (rec (if y.isNone then .ready else .done) y)) (m:=V);have:=run_endRound (P:=P) y ak;refine⟨by rw[z]at this ⊢;exact this,Mod.to (m:=U) ?_⟩;rw[b9];ac_rfl
   rintro e a3 J hp
   cases e with
   | normal =>
     obtain⟨hr,U⟩:=fin none _ J hp;exact⟨_,_,hr,.inl ⟨rfl,U⟩⟩
   | ret =>
     obtain⟨hr,U⟩:=fin (some .ret) _ J hp;exact⟨_,_,hr,.inr ⟨rfl,Mod.shut .ret (m:=U)⟩⟩
   | exit id =>
     obtain⟨hr,U⟩:=fin (some (.exit id)) _ J hp;exact⟨_,_,hr,.inr ⟨rfl,Mod.shut (.exit id) (m:=U)⟩⟩
   | goto t =>
     obtain⟨hr,U⟩:=fin (some (.goto t)) _ J hp;exact⟨_,_,hr,.inr ⟨rfl,Mod.shut (.goto t) (m:=U)⟩⟩
   | panic ch=>exact hp.elim
   | outgrown=>exact hp.elim
  ·exact Mod.to (m:=m1) (by ac_rfl)
  ·-- behind the iterator
   rintro e W2 ⟨⟨v,rfl⟩,(⟨xs,hS,E⟩ | ⟨pre,ai,E⟩)⟩
   ·have E:Mod W2 w0 (aE (w.heap.size+1) (.loop (rec .ready none))*((aE w.heap.size (.deferred (some []))*I xs)*K' xs)):=by rw[<-bo];exact E
    have hl:=g5 (g:=w.heap.size+1) E zbk;have V:=Mod.putObj (g:=w.heap.size+1) (.loop {rec .ready none with state:=.exhausted}) (m:=E);refine⟨none,W2.putObj (w.heap.size+1) (.loop {rec .ready none with state:=.exhausted}),by have:=run_endLoop (P:=P) hl (by rw[z];simp);subst z;exact this,?_⟩;rw[b9,bo]at V;exact ae _ xs _ hS (Mod.drop (m:=V))
   ·obtain⟨c,E⟩:=Mod.open (m:=E)
    have E:Mod W2 w0 (aE (w.heap.size+1) (.loop (rec .done (some c)))*((aE w.heap.size (.deferred (some []))*Ix c pre)*K' pre)):=by rw[<-bo];exact E
    have hl:=g5 (g:=w.heap.size+1) E zbk;have V:=Mod.putObj (g:=w.heap.size+1) (.loop {rec .done (some c)with state:=.exhausted}) (m:=E);refine⟨some c,W2.putObj (w.heap.size+1) (.loop {rec .done (some c)with state:=.exhausted}),by have:=run_endLoop (P:=P) hl (by rw[z];simp);subst z;exact this,?_⟩;rw[b9,bo]at V;exact af _ c pre _ ai (Mod.drop (m:=V))
end Go.Sl
namespace Go.Proofs.YtdfppjcaelghhaaGreatDoor
open Go.RowKit Go.Sl Go.Shelf
attribute [local go_sem] ab bj bh bd Oper.semAt_some
theorem xu (e s:Nat)(J K:ByteArray)(w w0:World)(S:ba)(m:Mod w w0 S):Calls Tryz.prog 38 #[ap e,.int .u64 (s:Int),.string J,.string K] w fun M U=>∃y z E B,M=.returned (.func (.func 83) #[] #[ap y,ap z,ap E,ap B])/\Mod U w0 (aE y (.cells #[ap e] 26 (0,0))*(aE z (.cells #[.string J] 9 (0,0))*(aE E (.cells #[.string K] 9 (0,0))*(aE B (.cells #[.int .u64 (s:Int)] 29 (0,0))*S)))):=by
 have O:∀(I:Fn)(first cap:Array Value)(w:World),(Instr.makeFunc I first cap).run Tryz.prog w=.ok (.func I first cap) w:=fun _ _ _ _=>rfl;go_enter Tryz.func38,Tryz.ntmps38
 go_wp2_with fail
 go_ret
 exact⟨_,_,_,_,rfl,Mod.keep (Mod.alloc (m:=Mod.alloc (m:=Mod.alloc (m:=Mod.alloc (m:=m) _) _) _) _)⟩
theorem xZ (t:Array Value)(y:fI)(p:Tmp):Array.foldl (fun t x=>match x with | (p,v)=>t.setIfInBounds p v) t ((#[p]:Array Tmp).zip (GV y))=t.setIfInBounds p (.agg #[.string y.1,.string y.2]):=by simp[GV]
theorem vf (A:Option Addr)(n c:Nat)(z:n<=c)(w w0:World)(S:ba)(m:Mod w w0 S):Calls Tryz.prog 39 #[.slice A n c] w fun e y=>e=.returned (.slice A n n)/\Mod y w0 S:=by
 go_enter Tryz.func39,Tryz.ntmps39
 go_wp2
 go_ret
 exact⟨rfl,m⟩
theorem ur (e p s:Nat)(v:eN)(B N n0:Nat)(E I:ByteArray)(most:Nat)(w w0:World)(F:ba)(h:eV e p v w0 F w)(hr:cv v B N n0)(aM:n0<=100)(hN:N<=100000)(hs:s<18446744073709551616)(ha:jB v s=true)(aL:1<=most)(aP:most<=9223372036854775807)(tab:fX F) :
 Calls Tryz.prog 10 #[ap e,.int .u64 (s:Int),.string E,.string I,.int .i64 (most:Int)] w fun en w'=>∃A' c',en=.returned (.slice A' ((jp v s E I).take most).length ((jp v s E I).take most).length)/\eV e p v w0 (ar 84 2 (.slice A' ((jp v s E I).take most).length c') ((jp v s E I).take most).length (da ((jp v s E I).take most))*F) w':=by
 have aG:Hid (∀(u:World)(G:ba),eV e p v w0 G u->Calls Tryz.prog 37 #[ap e,.int .u64 (s:Int)] u fun en w'=>en=.returned (.bool true)/\eV e p v w0 G w'):=fun u G hu=>by
  have h1:=oK e p s v B N n0 u w0 G hu hr;rw[ha]at h1;exact h1
 have HR:=zbj hr;have az:=zbj tab
 have aj:(jp v s E I).length<=100000:=by
  have h1:(jp v s E I).length<=(Cv v s E I).length:=Y7 _ _;have h2:=Aw (ij (kV v E I v.k.files).flatten) s;have h3:=(jk (kV v E I v.k.files).flatten).length_eq;have h4:=hr.toEnCore.Dl E I;have h5:(Cv v s E I).length<=(ij (kV v E I v.k.files).flatten).length:=h2;omega
 have ay:=zbj aj;have aH:¬(most:Int)<1:=oMg
 obtain⟨out,ag⟩:∃out,(jp v s E I).take most=out:=⟨_,rfl⟩;have ai:=zbj ag;rw[ag];clear ag;clear hr ha tab aj;obtain⟨Y,z,U,t,V,A,c,hc,m⟩:=h;refine callsIn_wide.1 (callsIn_of_wp_marks (n:=9) Tryz.func10 rfl trivial ?_);simp only[Tryz.ntmps10,Zl,List.length_cons,List.length_nil,Nat.reduceAdd,Nat.reduceSub,YL,Array.replicate_zero,Y6,YR,List.nil_append,List.cons_append]
 gi_wp2
 obtain⟨y,ah⟩:∃x,w.heap.size=x:=⟨_,rfl⟩;have m1:Mod (w.alloc (.cells #[.int .i64 (most:Int)] 3)) w0 (aE y (.cells #[.int .i64 (most:Int)] 3 (0,0))*_):=Mod.alloc (m:=m) (hn:=⟨ah⟩) _;have m2:Mod ((w.alloc (.cells #[.int .i64 (most:Int)] 3)).alloc (.cells #[.slice none 0 0] 34)) w0 (aE (y+1) (.cells #[.slice none 0 0] 34 (0,0))*_):=Mod.alloc (m:=m1) (hn:=⟨by simp[ah]⟩) _;rw[ah];generalize (w.alloc (.cells #[.int .i64 (most:Int)] 3)).alloc (.cells #[.slice none 0 0] 34)=w2 at *;clear ah m1 m;have m3:Mod w2 w0 (o6 e p Y z U t V A c v (aE y (.cells #[.int .i64 (most:Int)] 3 (0,0))*(aE (y+1) (.cells #[.slice none 0 0] 34 (0,0))*F))):=Mod.keep m2;clear m2;refine⟨trivial,(callsIn_wide.2 (aG.out _ _ ⟨Y,z,U,t,V,A,c,hc,m3⟩)).mono ?_⟩;clear m3 hc;clear Y z U t V A c;rintro ex w4 ⟨rfl,Y,z,U,t,V,A,c,hc,m4⟩
 gi_wp2_with (refine⟨trivial,?_⟩;gi_at_call 38;refine(callsIn_wide.2 (xu e s E I _ w0 _ m4)).mono ?_;rintro ex w5 ⟨be,bf,bt,bs,rfl,m5⟩)
 clear m4 aH
 refine sf (gf:=83) (lb:=#[ap be,ap bf,ap bt,ap bs]) rfl (enters_of Tryz.func83 kRf rfl) (fun _ _ _ _ h=>h) (xt be bf bt bs e p Y z U t V A c v B N n0 s E I HR.out aM hN hs w0 F az.out) (fun _=>rfl)
  (fun pre=>xX (pre.length<most)*ex fun q:Option Addr×Nat=>aE (y+1) (.cells #[.slice q.1 pre.length q.2] 34 (0,0))*(ar 84 2 (.slice q.1 pre.length q.2) pre.length (da pre)*aE y (.cells #[.int .i64 (most:Int)] 3 (0,0))))
  (fun c pre=>xX (pre.length=most/\c=.exit 0)*ex fun q:Option Addr×Nat=>aE (y+1) (.cells #[.slice q.1 pre.length q.2] 34 (0,0))*(ar 84 2 (.slice q.1 pre.length q.2) pre.length (da pre)*aE y (.cells #[.int .i64 (most:Int)] 3 (0,0)))) ?start (fun _ _=>trivial) ?acts (fun x g=>aE g (.cells #[.string x.1,.string x.2] 84 (0,0))) ?assign ?body ?done ?stop
 case start =>
  have J:=ey (e:=84) (size:=2) m5;have m7:=Mod.keep (T:=aE (y+1) (.cells #[.slice none 0 0] 34 (0,0))*(ar 84 2 (.slice none 0 0) 0 []*(aE y (.cells #[.int .i64 (most:Int)] 3 (0,0))*fT be bf bt bs e p Y z U t V A c v s E I F))) J;show Mod _ w0 ((xX _*ex _)*_);rw[bo];refine Mod.AG aL (m:=?_);refine Mod.shut (none,0) (m:=Mod.to (m:=m7) ?_);show _=(aE (y+1) (.cells #[.slice none 0 0] 34 (0,0))*(ar 84 2 (.slice none 0 0) 0 []*_))*_
  ac_rfl
 case acts=>exact fun x g=>{tmps:=#[ap e,.int .u64 (s:Int),.string E,.string I,.int .i64 (most:Int),undef,undef,undef,undef,ap y,ap (y+1),ap g,ap e,.int .u64 (s:Int),.bool true,.bool false,.bool false,.int .i64 (most:Int),.bool (decide ((most:Int)<1)),.bool (decide ((most:Int)<1)),ap e,.int .u64 (s:Int),.string E,.string I,.func (.func 83) #[] #[ap be,ap bf,ap bt,ap bs],.agg #[.string x.1,.string x.2],undef,undef,undef,undef,undef,undef,undef,undef,undef,undef],defers:=[]}
 case assign =>
  rintro yl ⟨xk,xv⟩ W X K mX hK;simp only[xZ,Zb,Zd,Zc]
  gi_wp2
  obtain⟨gg,aD⟩:∃x,W.heap.size=x:=⟨_,rfl⟩;have J:Mod (W.alloc (.cells #[.string xk,.string xv] 84)) w0 (aE gg (.cells #[.string xk,.string xv] 84 (0,0))*X):=Mod.alloc (m:=mX) (hn:=⟨aD⟩) _;rw[aD];exact J
 case body =>
  rintro yl pre ⟨xk,xv⟩ g X W ⟨rest,hN⟩ mB;rw[bo]at mB;obtain⟨aF,mB⟩:=Mod.qD (m:=mB);obtain⟨⟨A0,c0⟩,J⟩:=Mod.open (m:=mB);have aB:Hid (da (pre++[(xk,xv)])=da pre++[.string xk,.string xv]):=by show _=_;simp[da]
  have ak:Hid ((pre++[(xk,xv)]).length=pre.length+1):=by show _=_;simp
  obtain⟨O,av⟩:∃O,pre.length=O:=⟨_,rfl⟩;have aJ:pre.length<=100000:=by have:=ay.out;rw[hN,Ze]at this;omega
  rw[av]at J aF ak aJ;have aO:=zbj av;generalize da pre=xs at *;clear av hN mB;have J:Mod W w0 (aE (y+1) (.cells #[.slice A0 O c0] 34 (0,0))*(ar 84 2 (.slice A0 O c0) O xs*(aE y (.cells #[.int .i64 (most:Int)] 3 (0,0))*(aE g (.cells #[.string xk,.string xv] 84 (0,0))*X)))):=Mod.to (m:=J) (by ac_rfl);show Code.wpIn _ _ _ _ _ {tmps:=#[ap e,.int .u64 (s:Int),.string E,.string I,.int .i64 (most:Int),undef,undef,undef,undef,ap y,ap (y+1),ap g,ap e,.int .u64 (s:Int),.bool true,.bool false,.bool false,.int .i64 (most:Int),.bool (decide ((most:Int)<1)),.bool (decide ((most:Int)<1)),ap e,.int .u64 (s:Int),.string E,.string I,.func (.func 83) #[] #[ap be,ap bf,ap bt,ap bs],.agg #[.string xk,.string xv],undef,undef,undef,undef,undef,undef,undef,undef,undef,undef],defers:=[]} _;by_cases af:O+1=most
  ·have hq:((O:Int)+1)=(most:Int):=oMg
   gi_wp2_with (gi_at_builtin;refine lj (t:=34) (k:=1) (c:=1) (A:=⟨W.heap.size,0,none⟩) (news:=[.string xk,.string xv]) rfl rfl (Mod.pull (m:=Mod.alloc (m:=J) _) (ar 84 2 (.slice A0 O c0) O xs)) rfl rfl (ce rfl rfl) (by decide) (fun v hv=>z7 [(xk,xv)] v (by simpa [da]using hv)) (by unfold maxLen;omega) oMg ?_;intro A2 c2 ax aa)
   rw[af]at aa;have mE:=(zbk:Mod (ax.setCell ⟨y+1,0,none⟩ (.slice A2 most c2)) w0 _);simp only[Zb,Zc]at mE;have mE:=Mod.keep (T:=aE (y+1) (.cells #[.slice A2 most c2] 34 (0,0))*(ar 84 2 (.slice A2 most c2) most (xs++[.string xk,.string xv])*(aE y (.cells #[.int .i64 (most:Int)] 3 (0,0))*X))) mE;show Mod _ w0 ((xX _*ex _)*X);rw[bo,ak.out,aB.out,af];refine Mod.AG ⟨rfl,rfl⟩ (m:=?_);refine Mod.shut (A2,c2) (m:=Mod.to (m:=mE) ?_);show aE (y+1) (.cells #[.slice A2 most c2] 34 (0,0))*_=_
   ac_rfl
  ·have hq:¬((O:Int)+1)=(most:Int):=oMg
   gi_wp2_with (gi_at_builtin;refine lj (t:=34) (k:=1) (c:=1) (A:=⟨W.heap.size,0,none⟩) (news:=[.string xk,.string xv]) rfl rfl (Mod.pull (m:=Mod.alloc (m:=J) _) (ar 84 2 (.slice A0 O c0) O xs)) rfl rfl (ce rfl rfl) (by decide) (fun v hv=>z7 [(xk,xv)] v (by simpa [da]using hv)) (by unfold maxLen;omega) oMg ?_;intro A2 c2 ax aa)
   have mE:=(zbk:Mod (ax.setCell ⟨y+1,0,none⟩ (.slice A2 (O+1) c2)) w0 _);simp only[Zb,Zc]at mE;have mE:=Mod.keep (T:=aE (y+1) (.cells #[.slice A2 (O+1) c2] 34 (0,0))*(ar 84 2 (.slice A2 (O+1) c2) (O+1) (xs++[.string xk,.string xv])*(aE y (.cells #[.int .i64 (most:Int)] 3 (0,0))*X))) mE;show Mod _ w0 ((xX _*ex _)*X);rw[bo,ak.out,aB.out];refine Mod.AG oMg (m:=?_);refine Mod.shut (A2,c2) (m:=Mod.to (m:=mE) ?_);show aE (y+1) (.cells #[.slice A2 (O+1) c2] 34 (0,0))*_=_
   ac_rfl
 case done =>
  intro D xs W hS J;have J:Mod W w0 (xX (xs.length<most)*(ex (fun q:Option Addr×Nat=>aE (y+1) (.cells #[.slice q.1 xs.length q.2] 34 (0,0))*(ar 84 2 (.slice q.1 xs.length q.2) xs.length (da xs)*aE y (.cells #[.int .i64 (most:Int)] 3 (0,0))))*(aE D (.deferred (some []))*fT be bf bt bs e p Y z U t V A c v s E I F))):=Mod.to (m:=J) (by ac_rfl);obtain⟨aF,J⟩:=Mod.qD (m:=J);obtain⟨⟨A',c'⟩,m7⟩:=Mod.open (m:=J);have M:Hid (out=xs):=by show _=_;rw[<-ai.out,<-hS,Zn oMg]
  have au:=congrArg List.length M.out;have m8:Mod W w0 (aE (y+1) (.cells #[.slice A' out.length c'] 34 (0,0))*(aE D (.deferred (some []))*(ar 84 2 (.slice A' out.length c') out.length (da out)*(aE y (.cells #[.int .i64 (most:Int)] 3 (0,0))*fT be bf bt bs e p Y z U t V A c v s E I F)))):=by rw[M.out];exact Mod.to (m:=m7) (by ac_rfl)
  have ae:out.length<=c':=i7 (Mod.keep (T:=ar 84 2 (.slice A' out.length c') out.length (da out)*(aE (y+1) (.cells #[.slice A' out.length c'] 34 (0,0))*(aE D (.deferred (some []))*(aE y (.cells #[.int .i64 (most:Int)] 3 (0,0))*fT be bf bt bs e p Y z U t V A c v s E I F)))) m8);clear m7 J m5 au;go_wp2
  gi_wp2_with (refine⟨trivial,?_⟩;gi_at_call 39;refine(callsIn_wide.2 (vf A' out.length c' ae _ w0 _ m8)).mono ?_;rintro ex w9 ⟨rfl,m9⟩)
  have hK:(w9.setCell ⟨y+1,0,none⟩ (.slice A' out.length out.length)).heap[D]?=some (.deferred (some [])):=g5 (m:=(zbk:Mod (w9.setCell ⟨y+1,0,none⟩ (.slice A' out.length out.length)) w0 _)) zbk;refine⟨by simp,.inl ⟨_,_,rfl,run_takeDeferred hK,?_⟩⟩;have aa:Mod ((w9.setCell ⟨y+1,0,none⟩ (.slice A' out.length out.length)).putObj D (.deferred none)) w0 _:=Mod.putObj (m:=(zbk:Mod (w9.setCell ⟨y+1,0,none⟩ (.slice A' out.length out.length)) w0 _)) (t:=zbk) _;generalize (w9.setCell ⟨y+1,0,none⟩ (.slice A' out.length out.length)).putObj D (.deferred none)=W2 at *;have Z:W2.cell? ⟨y+1,0,none⟩=some (.slice A' out.length out.length):=Za;refine⟨.slice A' out.length out.length,by simp[results,asAddr,loadVar,Z,Tryz.f10],?_⟩;exact⟨A',c',rfl,Y,z,U,t,V,A,c,hc,Mod.keep (T:=o6 e p Y z U t V A c v (ar 84 2 (.slice A' out.length c') out.length (da out)*F)) aa⟩
 case stop =>
  rintro D cd pre W ⟨rest,aI⟩ J;have J:Mod W w0 (xX (pre.length=most/\cd=.exit 0)*(ex (fun q:Option Addr×Nat=>aE (y+1) (.cells #[.slice q.1 pre.length q.2] 34 (0,0))*(ar 84 2 (.slice q.1 pre.length q.2) pre.length (da pre)*aE y (.cells #[.int .i64 (most:Int)] 3 (0,0))))*(aE D (.deferred (some []))*fT be bf bt bs e p Y z U t V A c v s E I F))):=Mod.to (m:=J) (by ac_rfl);obtain⟨⟨aN,aK⟩,J⟩:=Mod.qD (m:=J);obtain⟨⟨A',c'⟩,m7⟩:=Mod.open (m:=J);subst aK;have M:Hid (out=pre):=by show _=_;rw[<-ai.out,aI,<-aN,zbg];rfl
  have au:=congrArg List.length M.out;have m8:Mod W w0 (aE (y+1) (.cells #[.slice A' out.length c'] 34 (0,0))*(aE D (.deferred (some []))*(ar 84 2 (.slice A' out.length c') out.length (da out)*(aE y (.cells #[.int .i64 (most:Int)] 3 (0,0))*fT be bf bt bs e p Y z U t V A c v s E I F)))):=by rw[M.out];exact Mod.to (m:=m7) (by ac_rfl)
  have ae:out.length<=c':=i7 (Mod.keep (T:=ar 84 2 (.slice A' out.length c') out.length (da out)*(aE (y+1) (.cells #[.slice A' out.length c'] 34 (0,0))*(aE D (.deferred (some []))*(aE y (.cells #[.int .i64 (most:Int)] 3 (0,0))*fT be bf bt bs e p Y z U t V A c v s E I F)))) m8);clear m7 J m5 au
  gi_wp2_with (refine⟨trivial,?_⟩;gi_at_call 39;refine(callsIn_wide.2 (vf A' out.length c' ae _ w0 _ m8)).mono ?_;rintro ex w9 ⟨rfl,m9⟩)
  have hK:(w9.setCell ⟨y+1,0,none⟩ (.slice A' out.length out.length)).heap[D]?=some (.deferred (some [])):=g5 (m:=(zbk:Mod (w9.setCell ⟨y+1,0,none⟩ (.slice A' out.length out.length)) w0 _)) zbk;refine⟨by simp,.inl ⟨_,_,rfl,run_takeDeferred hK,?_⟩⟩;have aa:Mod ((w9.setCell ⟨y+1,0,none⟩ (.slice A' out.length out.length)).putObj D (.deferred none)) w0 _:=Mod.putObj (m:=(zbk:Mod (w9.setCell ⟨y+1,0,none⟩ (.slice A' out.length out.length)) w0 _)) (t:=zbk) _;generalize (w9.setCell ⟨y+1,0,none⟩ (.slice A' out.length out.length)).putObj D (.deferred none)=W2 at *;have Z:W2.cell? ⟨y+1,0,none⟩=some (.slice A' out.length out.length):=Za;refine⟨.slice A' out.length out.length,by simp[results,asAddr,loadVar,Z,Tryz.f10],?_⟩;exact⟨A',c',rfl,Y,z,U,t,V,A,c,hc,Mod.keep (T:=o6 e p Y z U t V A c v (ar 84 2 (.slice A' out.length c') out.length (da out)*F)) aa⟩
end Go.Proofs.YtdfppjcaelghhaaGreatDoor
namespace Go.Sl
open Go
def Lx (l:List fI):ByteArray×Bool:=match l with | []=>(⟨#[]⟩,false) | x::_=>(x.2,true)
end Go.Sl
namespace Go.Proofs.YtdfppjcaelghhaaGreatDoor
open Go.RowKit Go.Sl Go.Shelf
attribute [local go_sem] ab bj bh bd Oper.semAt_some
theorem Lo (e p s:Nat)(v:eN)(B N n0:Nat)(k:ByteArray)(w w0:World)(F:ba)(h:eV e p v w0 F w)(hr:cv v B N n0)(ha:jB v s=false):Calls Tryz.prog 20 #[ap e,.int .u64 (s:Int),.string k] w fun U w'=>U=.returned (.tuple #[.string ⟨#[]⟩,.bool false])/\eV e p v w0 F w':=by
 have M:Hid (∀(u:World)(G:ba),eV e p v w0 G u->Calls Tryz.prog 37 #[ap e,.int .u64 (s:Int)] u fun U w'=>U=.returned (.bool false)/\eV e p v w0 G w'):=fun u G hu=>by
  have h1:=oK e p s v B N n0 u w0 G hu hr;rw[ha]at h1;exact h1
 clear hr ha;obtain⟨mp,J,ej,t,hm,A,c,hc,m⟩:=h;refine callsIn_wide.1 (callsIn_of_wp_marks (n:=9) Tryz.func20 rfl trivial ?_);simp only[Tryz.ntmps20,Zl,List.length_cons,List.length_nil,Nat.reduceAdd,Nat.reduceSub,YL,Array.replicate_zero,Y6,YR,List.nil_append,List.cons_append]
 gi_wp2
 obtain⟨y,z⟩:∃x,w.heap.size=x:=⟨_,rfl⟩;have m1:Mod (w.alloc (.cells #[.string ⟨#[]⟩] 9)) w0 (aE y (.cells #[.string ⟨#[]⟩] 9 (0,0))*_):=Mod.alloc (m:=m) (hn:=⟨z⟩) _;have m2:Mod ((w.alloc (.cells #[.string ⟨#[]⟩] 9)).alloc (.cells #[.bool false] 4)) w0 (aE (y+1) (.cells #[.bool false] 4 (0,0))*_):=Mod.alloc (m:=m1) (hn:=⟨by simp[z]⟩) _;rw[z];generalize (w.alloc (.cells #[.string ⟨#[]⟩] 9)).alloc (.cells #[.bool false] 4)=w2 at *;clear z m1 m;have m3:Mod w2 w0 (o6 e p mp J ej t hm A c v (aE y (.cells #[.string ⟨#[]⟩] 9 (0,0))*(aE (y+1) (.cells #[.bool false] 4 (0,0))*F))):=Mod.keep m2;clear m2;refine⟨trivial,(callsIn_wide.2 (M.out _ _ ⟨mp,J,ej,t,hm,A,c,hc,m3⟩)).mono ?_⟩;rintro ex w4 ⟨rfl,Z,K,O,t2,Y,A2,c2,V,m4⟩;clear m3
 gi_wp2
 have m5:=(zbk:Mod ((w4.setCell ⟨y,0,none⟩ (.string ⟨#[]⟩)).setCell ⟨y+1,0,none⟩ (.bool false)) w0 _);simp only[Zb,Zc]at m5;generalize (w4.setCell ⟨y,0,none⟩ (.string ⟨#[]⟩)).setCell ⟨y+1,0,none⟩ (.bool false)=w5 at *;have I:w5.cell? ⟨y,0,none⟩=some (.string ⟨#[]⟩):=Za;have E:w5.cell? ⟨y+1,0,none⟩=some (.bool false):=Za;refine⟨.tuple #[.string ⟨#[]⟩,.bool false],by simp[results,asAddr,loadVar,I,E,Tryz.f20],?_⟩;exact⟨rfl,Z,K,O,t2,Y,A2,c2,V,Mod.keep m5⟩
theorem B3 (e p s:Nat)(v:eN)(B N n0:Nat)(k:ByteArray)(w w0:World)(F:ba)(h:eV e p v w0 F w)(hr:cv v B N n0)(ay:n0<=100)(hN:N<=100000)(hs:s<18446744073709551616)(ha:jB v s=true)(tab:fX F) :
 Calls Tryz.prog 20 #[ap e,.int .u64 (s:Int),.string k] w fun en w'=>en=.returned (.tuple #[.string (Lx (jp v s k k)).1,.bool (Lx (jp v s k k)).2])/\eV e p v w0 F w':=by
 have au:Hid (∀(u:World)(G:ba),eV e p v w0 G u->Calls Tryz.prog 37 #[ap e,.int .u64 (s:Int)] u fun en w'=>en=.returned (.bool true)/\eV e p v w0 G w'):=fun u G hu=>by
  have h1:=oK e p s v B N n0 u w0 G hu hr;rw[ha]at h1;exact h1
 have HR:=zbj hr;have ag:=zbj tab;obtain⟨out,Y⟩:∃out,Lx (jp v s k k)=out:=⟨_,rfl⟩;have ae:=zbj Y;rw[Y];clear Y;clear hr ha tab;obtain⟨O,z,J,t,M,A,c,hc,m⟩:=h;refine callsIn_wide.1 (callsIn_of_wp_marks (n:=9) Tryz.func20 rfl trivial ?_);simp only[Tryz.ntmps20,Zl,List.length_cons,List.length_nil,Nat.reduceAdd,Nat.reduceSub,YL,Array.replicate_zero,Y6,YR,List.nil_append,List.cons_append]
 gi_wp2
 obtain⟨y,aa⟩:∃x,w.heap.size=x:=⟨_,rfl⟩;have m1:Mod (w.alloc (.cells #[.string ⟨#[]⟩] 9)) w0 (aE y (.cells #[.string ⟨#[]⟩] 9 (0,0))*_):=Mod.alloc (m:=m) (hn:=⟨aa⟩) _;have m2:Mod ((w.alloc (.cells #[.string ⟨#[]⟩] 9)).alloc (.cells #[.bool false] 4)) w0 (aE (y+1) (.cells #[.bool false] 4 (0,0))*_):=Mod.alloc (m:=m1) (hn:=⟨by simp[aa]⟩) _;rw[aa];generalize (w.alloc (.cells #[.string ⟨#[]⟩] 9)).alloc (.cells #[.bool false] 4)=w2 at *;clear aa m1 m;have m3:Mod w2 w0 (o6 e p O z J t M A c v (aE y (.cells #[.string ⟨#[]⟩] 9 (0,0))*(aE (y+1) (.cells #[.bool false] 4 (0,0))*F))):=Mod.keep m2;clear m2;refine⟨trivial,(callsIn_wide.2 (au.out _ _ ⟨O,z,J,t,M,A,c,hc,m3⟩)).mono ?_⟩;clear m3 hc;clear O z J t M A c;rintro ex w4 ⟨rfl,O,z,J,t,M,A,c,hc,m4⟩
 gi_wp2_with (refine⟨trivial,?_⟩;gi_at_call 38;refine(callsIn_wide.2 (xu e s k k _ w0 _ m4)).mono ?_;rintro ex w5 ⟨be,bf,bt,bs,rfl,m5⟩)
 clear m4
 refine sf (gf:=83) (lb:=#[ap be,ap bf,ap bt,ap bs]) rfl (enters_of Tryz.func83 kRf rfl) (fun _ _ _ _ h=>h) (xt be bf bt bs e p O z J t M A c v B N n0 s k k HR.out ay hN hs w0 F ag.out) (fun _=>rfl)
  (fun pre=>xX (pre=[])*(aE y (.cells #[.string ⟨#[]⟩] 9 (0,0))*aE (y+1) (.cells #[.bool false] 4 (0,0))))
  (fun cd pre=>ex fun x:fI=>xX (pre=[x]/\cd=.ret)*(aE y (.cells #[.string x.2] 9 (0,0))*aE (y+1) (.cells #[.bool true] 4 (0,0)))) ?start (fun _ _=>trivial) ?acts (fun x g=>aE g (.cells #[.string x.1,.string x.2] 84 (0,0))) ?assign ?body ?done ?stop
 case start =>
  have m7:=Mod.keep (T:=aE y (.cells #[.string ⟨#[]⟩] 9 (0,0))*(aE (y+1) (.cells #[.bool false] 4 (0,0))*fT be bf bt bs e p O z J t M A c v s k k F)) m5;show Mod _ w0 ((xX _*_)*_);rw[bo];refine Mod.AG rfl (m:=Mod.to (m:=m7) ?_)
  ac_rfl
 case acts=>exact fun x g=>{tmps:=#[ap e,.int .u64 (s:Int),.string k,undef,undef,undef,ap y,ap (y+1),ap g,ap e,.int .u64 (s:Int),.bool true,.bool false,ap e,.int .u64 (s:Int),.string k,.string k,.func (.func 83) #[] #[ap be,ap bf,ap bt,ap bs],.agg #[.string x.1,.string x.2],undef,undef],defers:=[]}
 case assign =>
  rintro yl ⟨xk,U⟩ W X K mX hK;simp only[xZ,Zb,Zd,Zc]
  gi_wp2
  obtain⟨gg,ah⟩:∃x,W.heap.size=x:=⟨_,rfl⟩;have Z:Mod (W.alloc (.cells #[.string xk,.string U] 84)) w0 (aE gg (.cells #[.string xk,.string U] 84 (0,0))*X):=Mod.alloc (m:=mX) (hn:=⟨ah⟩) _;rw[ah];exact Z
 case body =>
  rintro yl pre ⟨xk,U⟩ g X W ⟨rest,hN⟩ mB;rw[bo]at mB;obtain⟨aj,ak⟩:=Mod.qD (m:=mB);subst aj;have Z:Mod W w0 (aE y (.cells #[.string ⟨#[]⟩] 9 (0,0))*(aE (y+1) (.cells #[.bool false] 4 (0,0))*(aE g (.cells #[.string xk,.string U] 84 (0,0))*X))):=Mod.to (m:=ak) (by ac_rfl);clear mB ak;show Code.wpIn _ _ _ _ _ {tmps:=#[ap e,.int .u64 (s:Int),.string k,undef,undef,undef,ap y,ap (y+1),ap g,ap e,.int .u64 (s:Int),.bool true,.bool false,ap e,.int .u64 (s:Int),.string k,.string k,.func (.func 83) #[] #[ap be,ap bf,ap bt,ap bs],.agg #[.string xk,.string U],undef,undef],defers:=[]} _
  gi_wp2
  have mE:=(zbk:Mod ((W.setCell ⟨y,0,none⟩ (.string U)).setCell ⟨y+1,0,none⟩ (.bool true)) w0 _);simp only[Zb,Zc]at mE;have mE:=Mod.keep (T:=aE y (.cells #[.string U] 9 (0,0))*(aE (y+1) (.cells #[.bool true] 4 (0,0))*X)) mE;show Mod _ w0 (ex _*X);refine Mod.shut (xk,U) (m:=?_);rw[bo];refine Mod.AG ⟨rfl,rfl⟩ (m:=Mod.to (m:=mE) ?_)
  ac_rfl
 case done =>
  intro D xs W hS Z;have Z:Mod W w0 (xX (xs=[])*(aE D (.deferred (some []))*(aE y (.cells #[.string ⟨#[]⟩] 9 (0,0))*(aE (y+1) (.cells #[.bool false] 4 (0,0))*fT be bf bt bs e p O z J t M A c v s k k F)))):=Mod.to (m:=Z) (by ac_rfl);obtain⟨ai,m7⟩:=Mod.qD (m:=Z);have V:Hid (out=(⟨#[]⟩,false)):=by show _=_;rw[<-ae.out,<-hS,ai];rfl
  clear Z m5;go_wp2
  gi_wp2
  have hK:((W.setCell ⟨y,0,none⟩ (.string ⟨#[]⟩)).setCell ⟨y+1,0,none⟩ (.bool false)).heap[D]?=some (.deferred (some [])):=g5 (m:=(zbk:Mod ((W.setCell ⟨y,0,none⟩ (.string ⟨#[]⟩)).setCell ⟨y+1,0,none⟩ (.bool false)) w0 _)) zbk;refine⟨by simp,.inl ⟨_,_,rfl,run_takeDeferred hK,?_⟩⟩;have af:Mod (((W.setCell ⟨y,0,none⟩ (.string ⟨#[]⟩)).setCell ⟨y+1,0,none⟩ (.bool false)).putObj D (.deferred none)) w0 _:=Mod.putObj (m:=(zbk:Mod ((W.setCell ⟨y,0,none⟩ (.string ⟨#[]⟩)).setCell ⟨y+1,0,none⟩ (.bool false)) w0 _)) (t:=zbk) _;generalize ((W.setCell ⟨y,0,none⟩ (.string ⟨#[]⟩)).setCell ⟨y+1,0,none⟩ (.bool false)).putObj D (.deferred none)=W2 at *;have I:W2.cell? ⟨y,0,none⟩=some (.string ⟨#[]⟩):=Za;have E:W2.cell? ⟨y+1,0,none⟩=some (.bool false):=Za;refine⟨.tuple #[.string ⟨#[]⟩,.bool false],by simp[results,asAddr,loadVar,I,E,Tryz.f20],?_⟩;exact⟨by rw[V.out],O,z,J,t,M,A,c,hc,Mod.keep (T:=o6 e p O z J t M A c v F) af⟩
 case stop =>
  rintro D cd pre W ⟨rest,av⟩ Z;have ma:Mod W w0 (ex (fun x:fI=>xX (pre=[x]/\cd=.ret)*(aE y (.cells #[.string x.2] 9 (0,0))*aE (y+1) (.cells #[.bool true] 4 (0,0))))*(aE D (.deferred (some []))*fT be bf bt bs e p O z J t M A c v s k k F)):=Mod.to (m:=Z) (by ac_rfl);obtain⟨⟨xk,U⟩,mb⟩:=Mod.open (m:=ma);rw[bo]at mb;obtain⟨⟨az,ax⟩,m7⟩:=Mod.qD (m:=mb);subst ax;have V:Hid (out=(U,true)):=by show _=_;rw[<-ae.out,av,az];rfl
  clear Z ma mb m5
  gi_wp2
  have hK:(W).heap[D]?=some (.deferred (some [])):=g5 (m:=(zbk:Mod (W) w0 _)) zbk;refine⟨by simp,.inl ⟨_,_,rfl,run_takeDeferred hK,?_⟩⟩;have af:Mod ((W).putObj D (.deferred none)) w0 _:=Mod.putObj (m:=(zbk:Mod (W) w0 _)) (t:=zbk) _;generalize (W).putObj D (.deferred none)=W2 at *;have I:W2.cell? ⟨y,0,none⟩=some (.string U):=Za;have E:W2.cell? ⟨y+1,0,none⟩=some (.bool true):=Za;refine⟨.tuple #[.string U,.bool true],by simp[results,asAddr,loadVar,I,E,Tryz.f20],?_⟩;exact⟨by rw[V.out],O,z,J,t,M,A,c,hc,Mod.keep (T:=o6 e p O z J t M A c v F) af⟩
end Go.Proofs.YtdfppjcaelghhaaGreatDoor
