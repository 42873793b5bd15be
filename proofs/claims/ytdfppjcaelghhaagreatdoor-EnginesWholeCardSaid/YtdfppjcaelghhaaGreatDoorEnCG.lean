/- Plain lemmas and contracts; the conditions are in each. -/
import Derived.Sort.LoopGhostIn
import Derived.Test.YtdfppjcaelghhaaGreatDoorEnBG
set_option maxHeartbeats 16000000
set_option maxRecDepth 40000
namespace Go.Proofs.YtdfppjcaelghhaaGreatDoor
open Go.RowKit Go.Sl
attribute [local go_sem] ab bj bh bd
def jb (S:ba)(y:List cQ):Prop:=∀r∈y,bp S r.A r.l.length r.l/\r.l.length<=r.c/\r.l.length<=1000000
theorem jb.lift {S' S:ba}{y:List cQ}(s:Sub S' S)(r:jb S y):jb S' y:=fun x z=>⟨(r x z).1.lift s,(r x z).2⟩
theorem jb.perm {S:ba}{h h':List cQ}(p:h.Perm h')(r:jb S h):jb S h':=fun x y=>r x (p.mem_iff.2 y)
theorem IP {l:List ao}(h:l≠[]):∃y:0<l.length,l[0]=l.headD default:=by
 cases l with
 | nil=>exact absurd rfl h
 | cons x l=>exact⟨by simp,rfl⟩
theorem tV (a b:cQ)(w w0:World)(S:ba)(m:Mod w w0 S)(Z:bp S a.A a.l.length a.l)(rb:bp S b.A b.l.length b.l)(ha:a.l≠[])(hb:b.l≠[]) :
 Calls Tryz.prog 131 #[a.val,b.val] w fun e w'=>e=.returned (.bool (decide (vM a b)))/\Mod w' w0 S:=by
 obtain⟨aA,ac,B⟩:=a;obtain⟨bA,bc,E⟩:=b;simp only at Z rb ha hb;obtain⟨V,ea⟩:=IP ha;obtain⟨Y,eb⟩:=IP hb;have O:B.headD default=cQ.top ⟨aA,ac,B⟩:=rfl;have U:E.headD default=cQ.top ⟨bA,bc,E⟩:=rfl;rw[O]at ea;rw[U]at eb;obtain⟨I,J,rfl⟩:=gw m Z V;obtain⟨K,M,rfl⟩:=gw m rb Y;obtain⟨a0,a1,a2,a3⟩:=jc Z V;obtain⟨b0,b1,b2,b3⟩:=jc rb Y;rw[ea]at a0 a1 a2 a3;rw[eb]at b0 b1 b2 b3;simp only[Xj,Nat.add_zero]at a0 a1 a2 a3 b0 b1 b2 b3;show Calls Tryz.prog _ #[.slice (some ⟨I,J,none⟩) B.length ac,.slice (some ⟨K,M,none⟩) E.length bc] _ _;have HL:decide (vM ⟨some ⟨I,J,none⟩,ac,B⟩ ⟨some ⟨K,M,none⟩,bc,E⟩)=decide (oh (cQ.top ⟨some ⟨I,J,none⟩,ac,B⟩) (cQ.top ⟨some ⟨K,M,none⟩,bc,E⟩)<0):=decide_eq_decide.2 (qW _ _).symm;rw[HL];have HF:=zbj (fun(u:World)(mu:Mod u w0 S)=>nN (cQ.top ⟨some ⟨I,J,none⟩,ac,B⟩) (cQ.top ⟨some ⟨K,M,none⟩,bc,E⟩) u w0 S mu);clear HL O U ea eb ha hb Z rb;generalize cQ.top ⟨some ⟨I,J,none⟩,ac,B⟩=x at *;generalize cQ.top ⟨some ⟨K,M,none⟩,bc,E⟩=y at *;generalize oh x y=z at *;generalize B.length=na at *;generalize E.length=nb at *;have:=jO.some m;have aa:(0:Int)<(na:Int):=oMg
 have ae:(0:Int)<(nb:Int):=oMg
 go_enter Tryz.func131,Tryz.ntmps131
 go_wp2_with fail
 refine dy m kRf kRf ?_
 repeat (go_big_quiet_step ((go_at_call 129;refine cW (HF.out _ ?_);exact zbk)))
 refine wpQuiet_nil ?_;rintro w3 ⟨s,rfl⟩;have m3:=s.mod;go_wp2_with fail
 go_ret
 exact⟨rfl,m3⟩
def jD (h:Nat)(A:Option Addr)(n c:Nat):ba:=aE h (.cells #[.slice A n c,.func (.func 131) #[] #[]] 202 (0,0))
def et (y:List cQ):List Value:=y.map cQ.val
theorem xF (y z:Value)(w:World):(Instr.index 273 (.agg #[y,z]) (.int .i64 0)).run Tryz.prog w=.ok y w/\(Instr.index 273 (.agg #[y,z]) (.int .i64 1)).run Tryz.prog w=.ok z w:=by
 constructor <;> simp[Instr.index,run_underlying Tryz.underlying273,asIntOf,Tryz.sizeOf3,part,isAgg,run_underlying Tryz.underlying3]
theorem vD (y z:Value)(w:World):(Instr.index 273 (.agg #[y,z]) (.int .i64 0)).run Tryz.prog w=.ok y w:=(xF y z w).1
theorem vE (z y:Value)(w:World):(Instr.index 273 (.agg #[z,y]) (.int .i64 1)).run Tryz.prog w=.ok y w:=(xF z y w).2
attribute [local go_sem] vD vE
end Go.Proofs.YtdfppjcaelghhaaGreatDoor
namespace Go.Sl
open Go
theorem Cm {a b c:cQ}(h:vM a b)(h':vM b c):vM a c:=k7 h h'
structure jf (hl:List cQ)(a q nx:Nat):Prop where
 place:nx=a\/jP a nx/\nx<hl.length/\vM (hl.getD nx default) (hl.getD a default)
 least:∀c,jP a c->c<2*a+1+q->c<hl.length->¬vM (hl.getD c default) (hl.getD nx default)
theorem jf.start (z:List cQ)(a:Nat):jf z a 0 a:=⟨.inl rfl,fun c y h _=>by unfold jP at y;omega⟩
theorem jf.yes {z:List cQ}{a q nx:Nat}(h:jf z a q nx)(O:q<2)(M:2*a+1+q<z.length)(y:vM (z.getD (2*a+1+q) default) (z.getD nx default)):jf z a (q+1) (2*a+1+q):=by
 refine⟨.inr ⟨by unfold jP;omega,M,?_⟩,fun c J K E B=>?_⟩
 ·rcases h.place with e | ⟨_,_,I⟩
  ·rw[e]at y;exact y
  ·exact Cm y I
 ·by_cases e:c=2*a+1+q
  ·subst e;exact zS _ B
  ·exact h.least c J oMg E (Cm B y)
theorem jf.no {z:List cQ}{a q nx:Nat}(h:jf z a q nx)(I:2*a+1+q<z.length->¬vM (z.getD (2*a+1+q) default) (z.getD nx default)):jf z a (q+1) nx:=by
 refine⟨h.place,fun c B E y=>?_⟩;by_cases e:c=2*a+1+q
 ·subst e;exact I y
 ·exact h.least c B oMg y
theorem jf.done {E:List cQ}{a:Nat}(h:jf E a 2 a):M9 E a:=fun c B y z=>by
 have:=h.least c B (by unfold jP at B;omega) y
 rwa [jZ y,jZ z]at this
theorem jf.swap {B:List cQ}{i a nx:Nat}(h:jf B a 2 nx)(J:nx≠a)(b:lf B i a)(I:i<=a)(y:a<B.length):lf (ow B a nx) i nx/\jP a nx/\nx<B.length:=by
 rcases h.place with e | ⟨K,E,O⟩
 ·exact absurd e J
 ·refine⟨b.swap I K E y (by rwa [jZ E,jZ y]at O) fun c M z=>?_,K,E⟩
  have:=h.least c M (by unfold jP at M;omega) z
  rwa [jZ z,jZ E]at this
def kr (y:Array Value)(z:List cQ):Prop:=∀k,k<z.length->y[k]?=some (z.getD k default).val
theorem kr.swap {z:Array Value}{y:List cQ}(h:kr z y){i j:Nat}(M:i<y.length)(O:j<y.length):kr ((z.setIfInBounds i (y.getD j default).val).setIfInBounds j (y.getD i default).val) (ow y i j):=by
 have I:∀k,k<y.length->k<z.size:=fun k B=>(ZX.1 (h k B)).1;intro k B;have E:k<y.length:=by rw[<-oX y i j];exact B
 rw[jZ B,qJ M O B,Yn,Yn];by_cases J:j=k
 ·subst J
  rw[if_pos rfl,if_pos rfl,if_pos (by simpa using I j O),jZ M]
 ·rw[if_neg J,if_neg (Ne.symm J)]
  by_cases K:i=k
  ·subst K
   rw[if_pos rfl,if_pos rfl,if_pos (I i M),jZ O]
  ·rw[if_neg K,if_neg (Ne.symm K),h k E,jZ E]
end Go.Sl
namespace Go.Proofs.YtdfppjcaelghhaaGreatDoor
open Go.RowKit Go.Sl
attribute [local go_sem] ab bj bh bd vD vE
theorem yw {S:ba}{y:List cQ}(r:jb S y){k:Nat}(z:k<y.length):bp S (y.getD k default).A (y.getD k default).l.length (y.getD k default).l:=by
 rw[jZ z];exact(r _ (Zq z)).1
theorem yx {y:List cQ}(r:qg y){k:Nat}(z:k<y.length):(y.getD k default).l≠[]:=by
 rw[jZ z];exact(r _ (Zq z)).1
theorem qg.perm {h h':List cQ}(p:h.Perm h')(r:qg h):qg h':=fun x y=>r x (p.mem_iff.2 y)
theorem wS (h g n c i0 ae:Nat)(aa:Array Value)(hl:List cQ)(hn:hl.length=n)(bG:n<=1000000)(aZ:ae<n\/n<=2*ae+1)(aX:ae<=1000000)(bf:i0<=ae)(aT:kr aa hl)(hb:lf hl i0 ae)(w w0:World)(F:ba)
 (m:Mod w w0 (jD h (some ⟨g,0,none⟩) n c*(aE g (.cells aa 59 (0,0))*F))) (hr:jb F hl) (aU:qg hl) :
 Calls Tryz.prog 133 #[ap h,.int .i64 (ae:Int)] w fun e w'=>e=.returned (.tuple #[])/\∃aF aO,aO.Perm hl/\ft aO i0/\kr aF aO/\aF.size=aa.size/\Mod w' w0 (jD h (some ⟨g,0,none⟩) n c*(aE g (.cells aF 59 (0,0))*F)):=by
 unfold jD at m ⊢;have HR:=zbj hr;have HN:=zbj aU;have bB:Hid (aa.size=aa.size):=rfl;clear hr aU;go_enter Tryz.func133,Tryz.ntmps133
 go_wp2_with fail
 go_loopg [1] (n+1-ae) (fun gk va wr=>∃(a:Nat)(cu:Array Value)(B:List cQ),gk=n+1-a/\va=.int .i64 (a:Int)/\i0<=a/\(a<n\/n<=2*a+1)/\a<=1000000/\Hid (B.Perm hl/\lf B i0 a/\kr cu B/\cu.size=aa.size)/\Mod wr w0 (aE h (.cells #[.slice (some ⟨g,0,none⟩) n c,.func (.func 131) #[] #[]] 202 (0,0))*(aE g (.cells cu 59 (0,0))*F)))
 case atStart=>exact⟨ae,aa,hl,rfl,rfl,bf,aZ,aX,zbj ⟨X9 _,hb,aT,rfl⟩,m⟩
 case round =>
  obtain⟨a,cu,B,bF,rfl,bg,bD,bz,HQ,m2⟩:=hrel;have aK:B.length=n:=by rw[HQ.out.1.length_eq,hn]
  have U:=zbj aK;clear aK;obtain⟨k1,av⟩:∃k1,k1=2*a+1:=⟨_,rfl⟩;obtain⟨k2,ax⟩:∃k2,k2=2*a+2:=⟨_,rfl⟩;have e1:2*(a:Int)+1=(k1:Int):=oMg
  have e2:2*(a:Int)+2=(k2:Int):=oMg
  have ah:=zbj av;have ai:=zbj ax;clear av ax;go_wp2_with fail
  go_loopg [4,15] 2 (fun gj v4 bu wj=>∃(q nx:Nat),q<=2/\gj=2-q/\bu=.int .i64 (q:Int)/\v4=.int .i64 (nx:Int)/\nx<=3000000/\(nx<n\/nx=a/\n<=2*a+1)/\Hid (jf B a q nx)/\Mod wj w0 (aE h (.cells #[.slice (some ⟨g,0,none⟩) n c,.func (.func 131) #[] #[]] 202 (0,0))*(aE g (.cells cu 59 (0,0))*F)))
  case atStart=>exact⟨0,a,oMg,rfl,rfl,rfl,oMg,oMg,jf.start B a,m2⟩
  case round =>
   obtain⟨q,nx,hq,bE,rfl,rfl,aJ,aB,HI,m3⟩:=hrel;have bq:q=0\/q=1\/q=2:=oMg
   rcases bq with rfl | rfl | rfl
   ·have aR:=True.intro
    have K:Hid (jf B a 0 nx):=HI;by_cases aG:k1<n
    ·have aN:(k1:Int)<(n:Int):=oMg
     have aI:nx<n:=by have:=ah.out;have:=ai.out;omega
     have aL:(nx:Int)<(n:Int):=oMg
     have O:k1<B.length:=by rw[U.out];exact aG
     have hnl:nx<B.length:=by rw[U.out];exact aI
     have au:=HR.out.perm HQ.out.1.symm;have ak:=qg.perm HQ.out.1.symm HN.out;have r1:=yw au O;have r2:=yw au hnl;have q1:=yx ak O;have q2:=yx ak hnl;have af:=HQ.out.2.2.1 k1 O;have ag:=HQ.out.2.2.1 nx hnl;have Hy:=zbj (fun(y:vM (B.getD k1 default) (B.getD nx default))=>(by have av:=ah.out;rw[av];rw[av]at O y;exact K.out.yes oMg O y:jf B a (0+1) k1));have Hn:=zbj (fun(y:¬vM (B.getD k1 default) (B.getD nx default))=>(by have av:=ah.out;rw[av]at y;exact K.out.no fun _=>y:jf B a (0+1) nx));generalize B.getD k1 default=E at *;generalize B.getD nx default=I at *;have HC:Hid (∀(u:World)(S:ba),Mod u w0 S->Sub S F->Calls Tryz.prog 131 #[.slice E.A E.l.length E.c,.slice I.A I.l.length I.c] u fun e w'=>e=.returned (.bool (decide (vM E I)))/\Mod w' w0 S):=fun u S mu hs=>tV E I u w0 S mu (r1.lift hs) (r2.lift hs) q1 q2;have c1:cu[k1]?=some (.slice E.A E.l.length E.c):=af;have c2:cu[nx]?=some (.slice I.A I.l.length I.c):=ag;clear af ag;clear r1 r2 q1 q2 au ak O hnl;by_cases y:vM E I
     ·rw[decide_eq_true y]at HC
      have V:=zbj (Hy.out y);clear Hy Hn y HI K;generalize E.l.length=n1 at *;generalize I.l.length=n2 at *;generalize E.A=A1 at *;generalize I.A=A2 at *;generalize E.c=aD at *;generalize I.c=aj at *;go_wp2_with fail
      obtain⟨M,z,J⟩:∃M,M=_/\Mod wr w0 M:=⟨_,rfl,m3⟩;have hH:jq M h (.cells #[.slice (some ⟨g,0,none⟩) n c,.func (.func 131) #[] #[]] 202 (0,0)):=by rw[z];infer_instance
      have hG:jq M g (.cells cu 59 (0,0)):=by rw[z];infer_instance
      have Z:Sub M F:=by rw[z];infer_instance
      have Y:=zbj z;clear z m3;have:=jO.some J;refine dy J kRf kRf ?_
      repeat (go_big_quiet_step ((go_at_call 131;refine cW (HC.out _ _ ?_ Z);exact zbk)))
      refine wpQuiet_nil ?_;rintro w3 ⟨s,rfl⟩;have m4:=Mod.to (m:=s.mod) Y.out;clear J hH hG Y this Z;generalize s.world=w3 at *;go_wp2_with fail
      go_roundg (2-(0+1))
      case measure=>omega
      case rel=>exact⟨0+1,k1,oMg,rfl,by go_num,rfl,by have:=ah.out;omega,oMg,V,m4⟩
     ·rw[decide_eq_false y]at HC
      have V:=zbj (Hn.out y);clear Hy Hn y HI K;generalize E.l.length=n1 at *;generalize I.l.length=n2 at *;generalize E.A=A1 at *;generalize I.A=A2 at *;generalize E.c=aD at *;generalize I.c=aj at *;go_wp2_with fail
      obtain⟨M,z,J⟩:∃M,M=_/\Mod wr w0 M:=⟨_,rfl,m3⟩;have hH:jq M h (.cells #[.slice (some ⟨g,0,none⟩) n c,.func (.func 131) #[] #[]] 202 (0,0)):=by rw[z];infer_instance
      have hG:jq M g (.cells cu 59 (0,0)):=by rw[z];infer_instance
      have Z:Sub M F:=by rw[z];infer_instance
      have Y:=zbj z;clear z m3;have:=jO.some J;refine dy J kRf kRf ?_
      repeat (go_big_quiet_step ((go_at_call 131;refine cW (HC.out _ _ ?_ Z);exact zbk)))
      refine wpQuiet_nil ?_;rintro w3 ⟨s,rfl⟩;have m4:=Mod.to (m:=s.mod) Y.out;clear J hH hG Y this Z;generalize s.world=w3 at *;go_wp2_with fail
      go_roundg (2-(0+1))
      case measure=>omega
      case rel=>exact⟨0+1,nx,oMg,rfl,by go_num,rfl,aJ,aB,V,m4⟩
    ·have aN:¬(k1:Int)<(n:Int):=oMg
     have V:Hid (jf B a (0+1) nx):=K.out.no fun hk=>absurd (by rw[U.out]at hk;have:=ah.out;have:=ai.out;omega) aG;clear HI K;go_wp2_with fail
     go_quiet (fail)
     go_wp2_with fail
     go_roundg (2-(0+1))
     case measure=>omega
     case rel=>exact⟨0+1,nx,oMg,rfl,by go_num,rfl,aJ,aB,V,Mod.drewN (m:=m3) _⟩
   ·have aR:=True.intro
    have K:Hid (jf B a 1 nx):=HI;by_cases aG:k2<n
    ·have aN:(k2:Int)<(n:Int):=oMg
     have aI:nx<n:=by have:=ah.out;have:=ai.out;omega
     have aL:(nx:Int)<(n:Int):=oMg
     have O:k2<B.length:=by rw[U.out];exact aG
     have hnl:nx<B.length:=by rw[U.out];exact aI
     have au:=HR.out.perm HQ.out.1.symm;have ak:=qg.perm HQ.out.1.symm HN.out;have r1:=yw au O;have r2:=yw au hnl;have q1:=yx ak O;have q2:=yx ak hnl;have af:=HQ.out.2.2.1 k2 O;have ag:=HQ.out.2.2.1 nx hnl;have Hy:=zbj (fun(y:vM (B.getD k2 default) (B.getD nx default))=>(by have ax:=ai.out;rw[ax];rw[ax]at O y;exact K.out.yes oMg O y:jf B a (1+1) k2));have Hn:=zbj (fun(y:¬vM (B.getD k2 default) (B.getD nx default))=>(by have ax:=ai.out;rw[ax]at y;exact K.out.no fun _=>y:jf B a (1+1) nx));generalize B.getD k2 default=E at *;generalize B.getD nx default=I at *;have HC:Hid (∀(u:World)(S:ba),Mod u w0 S->Sub S F->Calls Tryz.prog 131 #[.slice E.A E.l.length E.c,.slice I.A I.l.length I.c] u fun e w'=>e=.returned (.bool (decide (vM E I)))/\Mod w' w0 S):=fun u S mu hs=>tV E I u w0 S mu (r1.lift hs) (r2.lift hs) q1 q2;have c1:cu[k2]?=some (.slice E.A E.l.length E.c):=af;have c2:cu[nx]?=some (.slice I.A I.l.length I.c):=ag;clear af ag;clear r1 r2 q1 q2 au ak O hnl;by_cases y:vM E I
     ·rw[decide_eq_true y]at HC
      have V:=zbj (Hy.out y);clear Hy Hn y HI K;generalize E.l.length=n1 at *;generalize I.l.length=n2 at *;generalize E.A=A1 at *;generalize I.A=A2 at *;generalize E.c=aD at *;generalize I.c=aj at *;go_wp2_with fail
      obtain⟨M,z,J⟩:∃M,M=_/\Mod wr w0 M:=⟨_,rfl,m3⟩;have hH:jq M h (.cells #[.slice (some ⟨g,0,none⟩) n c,.func (.func 131) #[] #[]] 202 (0,0)):=by rw[z];infer_instance
      have hG:jq M g (.cells cu 59 (0,0)):=by rw[z];infer_instance
      have Z:Sub M F:=by rw[z];infer_instance
      have Y:=zbj z;clear z m3;have:=jO.some J;refine dy J kRf kRf ?_
      repeat (go_big_quiet_step ((go_at_call 131;refine cW (HC.out _ _ ?_ Z);exact zbk)))
      refine wpQuiet_nil ?_;rintro w3 ⟨s,rfl⟩;have m4:=Mod.to (m:=s.mod) Y.out;clear J hH hG Y this Z;generalize s.world=w3 at *;go_wp2_with fail
      go_roundg (2-(1+1))
      case measure=>omega
      case rel=>exact⟨1+1,k2,oMg,rfl,by go_num,rfl,by have:=ai.out;omega,oMg,V,m4⟩
     ·rw[decide_eq_false y]at HC
      have V:=zbj (Hn.out y);clear Hy Hn y HI K;generalize E.l.length=n1 at *;generalize I.l.length=n2 at *;generalize E.A=A1 at *;generalize I.A=A2 at *;generalize E.c=aD at *;generalize I.c=aj at *;go_wp2_with fail
      obtain⟨M,z,J⟩:∃M,M=_/\Mod wr w0 M:=⟨_,rfl,m3⟩;have hH:jq M h (.cells #[.slice (some ⟨g,0,none⟩) n c,.func (.func 131) #[] #[]] 202 (0,0)):=by rw[z];infer_instance
      have hG:jq M g (.cells cu 59 (0,0)):=by rw[z];infer_instance
      have Z:Sub M F:=by rw[z];infer_instance
      have Y:=zbj z;clear z m3;have:=jO.some J;refine dy J kRf kRf ?_
      repeat (go_big_quiet_step ((go_at_call 131;refine cW (HC.out _ _ ?_ Z);exact zbk)))
      refine wpQuiet_nil ?_;rintro w3 ⟨s,rfl⟩;have m4:=Mod.to (m:=s.mod) Y.out;clear J hH hG Y this Z;generalize s.world=w3 at *;go_wp2_with fail
      go_roundg (2-(1+1))
      case measure=>omega
      case rel=>exact⟨1+1,nx,oMg,rfl,by go_num,rfl,aJ,aB,V,m4⟩
    ·have aN:¬(k2:Int)<(n:Int):=oMg
     have V:Hid (jf B a (1+1) nx):=K.out.no fun hk=>absurd (by rw[U.out]at hk;have:=ah.out;have:=ai.out;omega) aG;clear HI K;go_wp2_with fail
     go_quiet (fail)
     go_wp2_with fail
     go_roundg (2-(1+1))
     case measure=>omega
     case rel=>exact⟨1+1,nx,oMg,rfl,by go_num,rfl,aJ,aB,V,Mod.drewN (m:=m3) _⟩
   ·by_cases az:nx=a
    ·subst az
     have HF:Hid (ft B i0):=HQ.out.2.1.done HI.out.done;go_wp2_with fail
     (try rw[Exit.noGoto_ret])
     refine bodyPost_ret (results_none rfl _ _ _) rfl ?_;exact⟨rfl,cu,B,HQ.out.1,HF.out,HQ.out.2.2.1,HQ.out.2.2.2,m3⟩
    ·have aL:((nx:Int)==(a:Int))=false:=beq_eq_false_iff_ne.2 oMg
     have bn:¬(nx:Int)=(a:Int):=oMg
     have aS:jP a nx:=by
      rcases HI.out.place with e | ⟨e,_,_⟩
      ·exact absurd e az
      ·exact e
     unfold jP at aS;have aV:nx<n:=oMg
     have aY:a<n:=oMg
     clear aS;have bC:(a:Int)<(n:Int):=oMg
     have bH:(nx:Int)<(n:Int):=oMg
     have ay:a<B.length:=by rw[U.out];exact aY
     have aH:nx<B.length:=by rw[U.out];exact aV
     obtain⟨s1,s2,s3⟩:=HI.out.swap az HQ.out.2.1 bg ay;have af:=HQ.out.2.2.1 a ay;have ag:=HQ.out.2.2.1 nx aH;have aW:=HQ.out.2.2.1.swap ay aH;have hp:=(H8 ay aH).trans HQ.out.1;have aP:Hid (∀v1 v2:Value,v1=(B.getD a default).val->v2=(B.getD nx default).val->(ow B a nx).Perm hl/\lf (ow B a nx) i0 nx/\kr ((cu.setIfInBounds a v2).setIfInBounds nx v1) (ow B a nx)/\((cu.setIfInBounds a v2).setIfInBounds nx v1).size=aa.size):=fun v1 v2 e1 e2=>⟨hp,s1,by rw[e1,e2];exact aW,by simp[HQ.out.2.2.2]⟩;have aQ:=zbj s2;clear s1 s2 s3 aW hp;generalize B.getD a default=E at *;generalize B.getD nx default=I at *;have aM:=zbj (aP.out _ _ rfl rfl);clear aP;have c1:cu[a]?=some (.slice E.A E.l.length E.c):=af;have c2:cu[nx]?=some (.slice I.A I.l.length I.c):=ag;clear af ag;have aM:Hid ((ow B a nx).Perm hl/\lf (ow B a nx) i0 nx/\kr ((cu.setIfInBounds a (.slice I.A I.l.length I.c)).setIfInBounds nx (.slice E.A E.l.length E.c)) (ow B a nx)/\((cu.setIfInBounds a (.slice I.A I.l.length I.c)).setIfInBounds nx (.slice E.A E.l.length E.c)).size=aa.size):=aM;generalize E.l.length=n1 at *;generalize I.l.length=n2 at *;generalize E.A=A1 at *;generalize I.A=A2 at *;generalize E.c=aD at *;generalize I.c=aj at *
     have c3:(cu.setIfInBounds a (.slice A2 n2 aj))[nx]?=some (.slice A2 n2 aj):=by
      rw[Yn,if_neg (Ne.symm az)];exact c2
     go_wp2_with fail
     go_region
     go_wp2_with fail
     go_roundg (n+1-nx)
     case measure=>have:=aQ.out;unfold jP at this;omega
     case rel =>
      have m9:Mod ((wr.setCell ⟨g,a,none⟩ (.slice A2 n2 aj)).setCell ⟨g,nx,none⟩ (.slice A1 n1 aD)).drew w0 _:=zbk;exact⟨nx,_,ow B a nx,rfl,rfl,by have:=aQ.out;unfold jP at this;omega,.inl aV,oMg,aM,Mod.to (m:=m9) (by simp only[b9];ac_rfl)⟩
end Go.Proofs.YtdfppjcaelghhaaGreatDoor
namespace Go.Sl
open Go
def lP (y:List cQ)(k:Nat):List cQ:=(y.set 0 (y.getD k default)).take k
theorem y6 {r:cQ}{rest:List cQ}:(lP (r::rest) rest.length).Perm rest:=by
 unfold lP;rcases List.eq_nil_or_concat rest with rfl | ⟨m,x,rfl⟩
 ·simp
 ·have y:(r::m++[x]).getD (m++[x]).length default=x:=by
   rw[Ze,List.length_singleton,Zw];simp
  rw[List.cons_append]at y;rw[List.concat_eq_append,y,Zc,Ze,List.length_singleton,List.take_succ_cons,XC];exact(List.perm_append_singleton x m).symm
theorem BX {r:cQ}{rest:List cQ}:(lP (r::rest) rest.length).length=rest.length:=y6.length_eq
theorem kr.drop {y:Array Value}{r r':cQ}{rest:List cQ}(h:kr y (r'::rest)):∃v,y[rest.length]?=some v/\v=((r'::rest).getD rest.length default).val/\kr (y.setIfInBounds 0 v) (lP (r::rest) rest.length):=by
 have J:=h rest.length (by simp);refine⟨_,J,rfl,fun k I=>?_⟩;rw[BX]at I;have B:=h k (by simp;omega);have E:0<y.size:=by have:=(ZX.1 B).1;omega
 rw[Yn];unfold lP;simp only[Zw,Yi I,List.getElem?_set]at B ⊢;by_cases z:0=k
 ·subst z
  rw[if_pos rfl,if_pos rfl,if_pos E,if_pos (by simp)];have:∃q,rest.length=q+1:=⟨rest.length-1,oMg⟩;obtain⟨q,K⟩:=this;simp[K]
 ·rw[if_neg z,if_neg z,B]
  obtain⟨q,rfl⟩:∃q,k=q+1:=⟨k-1,oMg⟩;simp
end Go.Sl
namespace Go.Proofs.YtdfppjcaelghhaaGreatDoor
open Go.RowKit Go.Sl
attribute [local go_sem] ab bj bh bd
theorem BY (h g c:Nat)(z:Array Value)(r r':cQ)(rest:List cQ)(aa:rest.length<=900000)(J:kr z (r'::rest))(hf:ft (r::rest) 0)(w w0:World)(F:ba)
 (m:Mod w w0 (jD h (some ⟨g,0,none⟩) (rest.length+1) c*(aE g (.cells z 59 (0,0))*F))) (hr:jb F (r::rest)) (M:qg (r::rest)) (hc:rest.length+1<=c) :
 Calls Tryz.prog 134 #[ap h] w fun e w'=>e=.returned (.tuple #[])/\∃B I,I.Perm rest/\ft I 0/\kr B I/\B.size=z.size/\Mod w' w0 (jD h (some ⟨g,0,none⟩) rest.length c*(aE g (.cells B 59 (0,0))*F)):=by
 obtain⟨v,hv,U,E⟩:=J.drop (r:=r);have hb:=hf.drop ((r::rest).getD rest.length default);rw[List.length_cons,XG]at hb;have y:=y6 (r:=r) (rest:=rest);have O:jb F (lP (r::rest) rest.length):=fun x hx=>hr x (Zh _ (y.mem_iff.1 hx));have K:qg (lP (r::rest) rest.length):=fun x hx=>M x (Zh _ (y.mem_iff.1 hx));have Y:=zbj (fun(u:World)(mu:Mod u w0 (jD h (some ⟨g,0,none⟩) rest.length c*(aE g (.cells (z.setIfInBounds 0 v) 59 (0,0))*F)))=>wS h g rest.length c 0 0 (z.setIfInBounds 0 v) (lP (r::rest) rest.length) BX oMg oMg oMg (Zm 0) E hb u w0 F mu O K);have ae:Hid ((z.setIfInBounds 0 v).size=z.size):=by show _=_;simp
 have H0:=J 0 (by simp);have af:∃V n1 Z,v=.slice V n1 Z:=⟨_,_,_,U⟩;obtain⟨V,n1,Z,rfl⟩:=af;obtain⟨ov,ai⟩:∃ov,z[0]?=some ov:=⟨_,H0⟩;obtain⟨k,hk⟩:∃k,rest.length=k:=⟨_,rfl⟩;rw[hk]at Y hv m hc aa y;have Hp:=zbj y;rw[hk];have e1:(k:Int)+1-1=(k:Int):=oMg
 have ah:(k:Int)<(k:Int)+1:=oMg
 have ag:(k:Int)<=(c:Int):=oMg
 clear E hb O K U H0 y hk hf hr M;unfold jD at m Y ⊢;go_enter Tryz.func134,Tryz.ntmps134
 go_wp2_with fail
 go_region
 have m2:Mod ((w.setCell ⟨g,0,none⟩ (.slice V n1 Z)).setCell ⟨h,0,none⟩ (.slice (some ⟨g,0,none⟩) k c)).drew w0 _:=zbk;simp only[Zb,Zc,b9]at m2;go_wp2_with (go_at_call 133;refine(Y.out _ (Mod.to (m:=m2) (by ac_rfl))).mono ?_;rintro e w3 ⟨rfl,B,I,p1,p2,p3,p4,m3⟩)
 go_end0
 exact⟨rfl,B,I,p1.trans Hp.out,p2,p3,p4.trans ae.out,m3⟩
end Go.Proofs.YtdfppjcaelghhaaGreatDoor
namespace Go.Sl
open Go
def Ey (ls:List cQ):List cQ:=ls.filter fun r => !r.l.isEmpty
theorem IB:∀ls:List cQ,km (Ey ls)=km ls
 | []=>rfl
 | r::ls=>by
   have y:=IB ls;unfold km Ey at y ⊢;by_cases h:r.l=[]
   ·rw[ZQ (by simp[h]),Zp,h,List.nil_append,y]
   ·rw[ZZ (by simp[h]),Zp,Zp,y]
theorem L8 (ls:List cQ)(i:Nat)(h:i<ls.length):Ey (ls.take (i+1))=Ey (ls.take i)++if ls[i].l.length=0 then []else [ls[i]]:=by
 rw[Zx h];unfold Ey;rw[Yp]
 congr 1
 by_cases y:ls[i].l=[]
 ·rw[if_pos (by rw[y];rfl),ZQ (by simp[y]),List.filter_nil]
 ·rw[if_neg (fun e=>y (Zo e)),ZZ (by simp[y]),List.filter_nil]
end Go.Sl
namespace Go.Proofs.YtdfppjcaelghhaaGreatDoor
open Go.RowKit Go.Sl
attribute [local go_sem] ab bj bh bd
instance Oj:wl Tryz.prog 143 59 24:=⟨Tryz.underlying143,by kernel_rfl⟩
theorem DY {A:Option Addr}{n c:Nat}{l:List ao}{G:ba}(h:l.length=n):bp (ar 71 4 (.slice A n c) n (l.flatMap ao.cells)*G) A n l :=
 ⟨h,ct (S:=ar 71 4 (.slice A n c) n (l.flatMap ao.cells)) zbk (fh (by decide))⟩
theorem kr.set0 {y:Array Value}{r r':cQ}{rest:List cQ}(h:kr y (r::rest)):kr (y.setIfInBounds 0 r'.val) (r'::rest):=by
 intro k I;have E:=h k (by simpa using I);have z:0<y.size:=by have:=(ZX.1 E).1;omega
 rw[Yn];by_cases B:0=k
 ·subst B;rw[if_pos rfl,if_pos z];rfl
 ·rw[if_neg B,E]
  obtain⟨q,rfl⟩:∃q,k=q+1:=⟨k-1,oMg⟩;rfl
theorem B4 {y:ba}{b o n:Nat}{x:ao}{l:List ao}(r:bp y (some ⟨b,o,none⟩) (n+1) (x::l)):bp y (some ⟨b,o+4,none⟩) n l:=by
 have h:=r.part 1 n oMg;have z:=r.len;simp only[List.length_cons]at z;rw[ZY,Z6,Zn oMg]at h
 have e:(some (⟨b,o,none⟩:Addr)).map (·.add (1*4))=some ⟨b,o+4,none⟩:=by
  show some ((⟨b,o,none⟩:Addr).add 4)=_;rw[jl _ _ rfl]
 rwa [e]at h
theorem Di (l:List cQ)(x:cQ):et (l++[x])=et l++[.slice x.A x.l.length x.c]:=by unfold et;rw[ZP];rfl
theorem Jb {y:Array Value}{z:List cQ}{n:Nat}(hn:z.length=n)(h:y.toList.take (n*1)=et z):kr y z:=by
 intro k E;have B:(y.toList.take (n*1))[k]?=(et z)[k]?:=by rw[h]
 rw[Yi oMg]at B
 have I:(et z)[k]?=some (z.getD k default).val:=by
  unfold et;rw[Yc,Zg E,jZ E];rfl
 rw[I]at B;simpa using B
section
variable (A0:Option Addr)(nl cl:Nat)(ls:List cQ)(hnl:nl<=100000)(hrise:∀r∈ls,fc r.l)(hone:(km ls).Pairwise fun a b=>¬eW a b)(hall:(km ls).length<=1000000)(w w0:World)(S:ba)(m:Mod w w0 S)(r:bk S A0 nl (et ls))(hr:jb S ls)
include hnl hrise hone hall m r hr in
theorem vN:Calls Tryz.prog 86 #[.slice A0 nl cl] w fun e w'=>∃B c',e=.returned (.tuple #[.slice B (km ls).length c',.int .i64 0])/\Mod w' w0 (ar 71 4 (.slice B (km ls).length c') (km ls).length ((ij (km ls)).flatMap ao.cells)*S):=by
 obtain⟨all,aa⟩:∃all,km ls=all:=⟨_,rfl⟩;rw[aa]at hone hall ⊢;have aT:=zbj aa;have ay:=zbj hone;obtain⟨NA,aW⟩:∃NA,all.length=NA:=⟨_,rfl⟩;have aS:=zbj aW;rw[aW]at hall ⊢;have aR:ls.length=nl:=by have:=fp m r;unfold et at this;rwa [ZW]at this
 have aL:=zbj aR;have au:=zbj hrise;have HR:=zbj hr;have bB:=zbj r;clear aa hone aW aR hrise hr r;go_enter Tryz.func86,Tryz.ntmps86
 go_wp2_with fail
 go_loopg [2,14] nl (fun gk v2 vi wr=>∃(i k c':Nat)(A':Option Addr),v2=.slice none 0 0/\i<=nl/\gk=nl-i/\vi=.int .i64 (i:Int)/\k<=i/\Hid ((Ey (ls.take i)).length=k)/\Mod wr w0 (aE w.heap.size (.cells #[.slice A' k c',.func (.func 131) #[] #[]] 202 (0,0))*(ar 59 1 (.slice A' k c') k (et (Ey (ls.take i)))*S)))
 case atStart=>exact⟨0,0,0,none,rfl,Zv _,rfl,rfl,Zm _,rfl,Mod.to (m:=ey (e:=59) (size:=1) (Mod.alloc (m:=m) _)) (by show _=aE w.heap.size (.cells #[.slice none 0 0,.func (.func 131) #[] #[]] 202 (0,0))*(ar 59 1 (.slice none 0 0) 0 []*S);ac_rfl)⟩
 case round =>
  obtain⟨i,k,c',A',rfl,hi,dE,rfl,dG,Hk,m2⟩:=hrel;by_cases aZ:i<nl
  ·have bX:(i:Int)<(nl:Int):=oMg
   have aG:i<ls.length:=by rw[aL.out];exact aZ
   obtain⟨ad,hA,bL,bU⟩:=cP m bB.out oMg;clear bU;obtain⟨b,o,sp⟩:=ad;simp only at bL;subst bL hA;have cx:bw S b (o+i) (.slice ls[i].A ls[i].l.length ls[i].c):=eL bB.out oMg i (by unfold et;simp[aG];rfl);have aJ:=HR.out _ (Zq aG);have bn:=au.out _ (Zq aG);have Hs:=zbj (L8 ls i aG);generalize ls[i]=x at *;obtain⟨xA,xc,xl⟩:=x;simp only at aJ bn cx Hs;have di:=aJ.2.2
   have HF:Hid (∀(u:World)(J:ba),Mod u w0 J->Sub J S->Calls Tryz.prog 132 #[.slice xA xl.length xc] u fun e w'=>e=.returned (.bool true)/\Mod w' w0 J):=fun u J mu Y=>by
    have h:=fZ xA xl.length xc xl u w0 J mu (aJ.1.lift Y) oMg;rw[show rH xl=true from decide_eq_true bn]at h;exact h
   clear aJ bn;obtain⟨xn,bu⟩:∃xn,xl.length=xn:=⟨_,rfl⟩;rw[bu]at cx HF Hs di;have bS:=zbj bu;clear bu;by_cases h0:xn=0
   ·subst h0
    have az:Hid (Ey (ls.take (i+1))=Ey (ls.take i)):=by show _=_;rw[Hs.out,if_pos rfl,ZH]
    clear Hs;go_wp2_with (go_at_call 132;refine(HF.out _ _ m2 zbk).mono ?_;rintro e w3 ⟨rfl,m3⟩)
    go_roundg (nl-(i+1))
    case measure=>omega
    case rel=>exact⟨i+1,k,c',A',rfl,aZ,rfl,by go_num,oMg,by show _=_;rw[az.out];exact Hk.out,by rw[az.out];exact m3⟩
   ·have dB:(0:Int)<(xn:Int):=oMg
    have az:Hid (Ey (ls.take (i+1))=Ey (ls.take i)++[⟨xA,xc,xl⟩]):=by show _=_;rw[Hs.out,if_neg h0]
    have bR:Hid (et (Ey (ls.take (i+1)))=et (Ey (ls.take i))++[.slice xA xn xc]):=by
     show _=_;rw[az.out,Di];simp only[bS.out]
    clear Hs;have bD:=True.intro
    go_wp2_with first
     | (go_at_call 132;clear bD;refine(HF.out _ _ m2 zbk).mono ?_;rintro e w3 ⟨rfl,m3⟩)
     | (at_builtin;refine cS (v:=.slice A' k c') (k:=1) (c:=1) (news:=[.slice xA xn xc]) (r:=ce rfl rfl) rfl rfl zbk rfl rfl (by simp[Value.oneCell']) (by unfold maxLen;omega) oMg ?_;intro A2 c2 w4 m4)
    go_roundg (nl-(i+1))
    case measure=>omega
    case rel =>
     have m5:Mod (w4.setCell ⟨w.heap.size,0,none⟩ (.slice A2 (k+1) c2)) w0 _:=zbk;simp only[Zb,Zc]at m5;exact⟨i+1,k+1,c2,A2,rfl,aZ,rfl,by go_num,oMg,by show _=_;rw[az.out,Ze,Hk.out];rfl,by rw[bR.out];exact Mod.keep m5⟩
  ·have bX:¬(i:Int)<(nl:Int):=oMg
   have aH:ls.take i=ls:=Zn (by have:=aL.out;omega);rw[aH]at Hk m2;clear aH
   have V:qg (Ey ls):=fun x hx=>by
    obtain⟨h1,h2⟩:=ZB.1 hx;exact⟨by simpa using h2,au.out x h1⟩
   have aF:∀J,Sub J S->jb J (Ey ls):=fun J Y x hx=>HR.out.lift Y x (ZB.1 hx).1;have ae:km (Ey ls)=all:=by rw[IB,aT.out]
   obtain⟨hl,bG⟩:∃hl,Ey ls=hl:=⟨_,rfl⟩;rw[bG]at V aF ae Hk m2;have av:=zbj V;have bz:=zbj aF;have ax:=zbj ae;clear V aF ae bG;by_cases bH:k=0
   ·subst bH
    have bI:hl=[]:=Zo Hk.out;subst bI;have aX:all=[]:=ax.out.symm;subst aX;have bE:NA=0:=aS.out.symm;subst bE
    have HF:Hid (∀(u:World)(J:ba),Mod u w0 J->Calls Tryz.prog 132 #[.slice none 0 0] u fun e w'=>e=.returned (.bool true)/\Mod w' w0 J):=fun u J mu=>by
     have h:=fZ none 0 0 [] u w0 J mu (bp.jE _) oMg;rw[show rH []=true from rfl]at h;exact h
    go_wp2_with fail
    refine wp_loop_rounds 1 ?_;rw[rounds_succ];go_wp2_with fail
    refine wp_loop_rounds 1 ?_;rw[rounds_succ];go_wp2_with (go_at_call 132;refine(HF.out _ _ m2).mono ?_;rintro e w3 ⟨rfl,m3⟩)
    go_ret2
    refine⟨none,0,rfl,?_⟩;have m4:Mod w3 w0 (ar 71 4 (.slice none 0 0) 0 []*_):=ey m3;rw[show (ij ([]:List ao)).flatMap ao.cells=[] by simp[ij]];exact Mod.keep m4
   ·obtain⟨k',rfl⟩:∃k',k=k'+1:=⟨k-1,oMg⟩
    obtain⟨g,aV,rfl,dF,dD,_,aN,aO,m3⟩:=py (Mod.to (m:=m2) (cC _ _ _)) oMg;have aP:=Jb Hk.out aO;have m3:Mod wr w0 (aE w.heap.size (.cells #[.slice (some ⟨g,0,none⟩) (k'+1) c',.func (.func 131) #[] #[]] 202 (0,0))*(aE g (.cells aV 59 (0,0))*S)):=Mod.to (m:=m3) (cC _ _ _);have bM:=zbj aP;have e1:(k':Int)+1-1=(k':Int):=oMg
    have dA:=zbj aN;clear m2 aP aO aN bH;go_wp2_with fail
    go_loopg [7] (k'+1) (fun gk va dm=>∃(r:Nat)(z:Int)(cu:Array Value)(hh:List cQ),r<=k'+1/\z+1=(r:Int)/\gk=r/\va=.int .i64 z/\Hid (hh.Perm hl/\ft hh r/\kr cu hh/\cu.size=aV.size)/\Mod dm w0 (aE w.heap.size (.cells #[.slice (some ⟨g,0,none⟩) (k'+1) c',.func (.func 131) #[] #[]] 202 (0,0))*(aE g (.cells cu 59 (0,0))*S)))
    case atStart=>exact⟨k'+1,k',aV,hl,Zm _,oMg,rfl,rfl,zbj ⟨X9 _,ft.half (by rw[Hk.out];omega),bM.out,rfl⟩,m3⟩
    case round =>
     obtain⟨r,z,cu,hh,dH,hz,dw,rfl,HQ,m4⟩:=hrel
     cases r with
     | zero =>
       obtain rfl:z = -1:=oMg
       have bP:Hid (lV all [] hh):=lV.start (by rw[<-ax.out];exact oS HQ.out.1) HQ.out.2.1 (qg.perm HQ.out.1.symm av.out);have bO:Hid (∀J,Sub J S->jb J hh):=fun J Y=>(bz.out J Y).perm HQ.out.1.symm;have bN:Hid (kr cu hh):=HQ.out.2.2.1;have bQ:Hid (hh.length=k'+1):=by show _=_;rw[HQ.out.1.length_eq,Hk.out]
       go_wp2_with fail
       go_loopg [2] (km hh).length (fun gk vo dn=>∃(out:List ao)(h3:List cQ)(K:Array Value)(Ao:Option Addr)(co no nn:Nat),gk=(km h3).length/\vo=.slice Ao no co/\Hid (out.length=no)/\Hid (h3.length=nn)/\nn<=k'+1/\Hid (lV all out h3)/\Hid (∀J,Sub J S->jb J h3)/\Hid (kr K h3)/\Mod dn w0 (aE w.heap.size (.cells #[.slice (some ⟨g,0,none⟩) nn c',.func (.func 131) #[] #[]] 202 (0,0))*(aE g (.cells K 59 (0,0))*(ar 71 4 (.slice Ao no co) no (out.flatMap ao.cells)*S))))
       case atStart=>exact⟨[],hh,cu,none,0,0,k'+1,rfl,rfl,rfl,bQ,Zm _,bP,bO,bN,Mod.to (m:=ey (e:=71) (size:=4) m4) (by show _=aE w.heap.size (.cells #[.slice (some ⟨g,0,none⟩) (k'+1) c',.func (.func 131) #[] #[]] 202 (0,0))*(aE g (.cells cu 59 (0,0))*(ar 71 4 (.slice none 0 0) 0 []*S));ac_rfl)⟩
       case round =>
        obtain⟨out,h3,K,Ao,co,no,nn,aQ,rfl,ah,aU,bY,Z,HI,HC,m5⟩:=hrel
        cases h3 with
        | nil =>
          obtain rfl:nn=0:=aU.out.symm;have aD:=Z.out.fin;have aK:=zbj aD;have bZ:no=NA:=by rw[<-ah.out,<-aS.out,aD.1,(jk all).length_eq]
          subst bZ
          have HF:Hid (∀(u:World)(G:ba),Mod u w0 (ar 71 4 (.slice Ao no co) no (out.flatMap ao.cells)*G)->Calls Tryz.prog 132 #[.slice Ao no co] u fun e w'=>e=.returned (.bool true)/\Mod w' w0 (ar 71 4 (.slice Ao no co) no (out.flatMap ao.cells)*G)):=fun u G mu=>by
           have rr:bp (ar 71 4 (.slice Ao no co) no (out.flatMap ao.cells)*G) Ao no out:=DY ah.out;have h:=fZ Ao no co out u w0 _ mu rr oMg;rw[show rH out=true from decide_eq_true aK.out.2]at h;exact h
          clear aD;go_wp2_with (go_at_call 132;refine(HF.out _ _ (Mod.pull (m:=m5) (ar 71 4 (.slice Ao no co) no (out.flatMap ao.cells)))).mono ?_;rintro e w6 ⟨rfl,m6⟩)
          go_ret2
          refine⟨Ao,co,rfl,?_⟩;rw[<-aK.out.1];exact Mod.keep m6
        | cons r rest =>
          have af:=HI.out S zbk r (Zj ..);have bg:=Z.out.runs r (Zj ..);have bf:=Z.out.runs;obtain⟨rA,M,rl⟩:=r;simp only at af bg
          cases rl with
          | nil=>exact absurd rfl bg.1
          | cons x l =>
            obtain⟨nr,rfl⟩:∃nr,nn=nr+1:=⟨rest.length,by rw[<-aU.out];rfl⟩;have bJ:rest.length=nr:=by have:=aU.out;simpa using this
            obtain⟨O,U,rfl⟩:=gw m5 (af.1.lift zbk) (k:=0) (by simp);obtain⟨x0,x1,x2,x3⟩:=jc af.1 (k:=0) (by simp);simp only[Xj,Nat.add_zero,List.getElem_cons_zero]at x0 x1 x2 x3;have bV:K[0]?=some (.slice (some ⟨O,U,none⟩) (l.length+1) M):=HC.out 0 (by simp);have bF:=af.2.2;have aM:=af.2.1;simp only[List.length_cons]at bF aM;obtain⟨nx,aI⟩:∃nx,l.length=nx:=⟨_,rfl⟩;rw[aI]at bV bF aM;have bC:=zbj af;have aj:=zbj aI;have ai:=zbj bJ
            have dz:no<=1000000:=by
             have h1:=Z.out.perm.length_eq;rw[Ze,ah.out,aS.out]at h1;omega
            have dx:gk=nx+1+(km rest).length:=by
             rw[aQ];unfold km;rw[Zp,Ze,List.length_cons,aI]
            clear af aI bJ bg bf aQ;have dC:(1:Int)<=(M:Int):=oMg
            by_cases bq:nx=0
            ·subst bq
             have cO:((0:Int)+1==1)=true:=rfl;by_cases cz:M=1
             ·subst cz
              have HD:Hid (∀(u:World)(G:ba),Sub G S->Mod u w0 (jD w.heap.size (some ⟨g,0,none⟩) (nr+1) c'*(aE g (.cells (K.setIfInBounds 0 (.slice (some ⟨O,U,none⟩) 0 0)) 59 (0,0))*G))->Calls Tryz.prog 134 #[ap w.heap.size] u fun e w'=>e=.returned (.tuple #[])/\∃E I,I.Perm rest/\ft I 0/\kr E I/\E.size=(K.setIfInBounds 0 (.slice (some ⟨O,U,none⟩) 0 0)).size/\Mod w' w0 (jD w.heap.size (some ⟨g,0,none⟩) nr c'*(aE g (.cells E 59 (0,0))*G))):=fun u G Y mu=>by
               have h1:=ai.out;have ak:=kr.set0 (h:=HC.out) (r':=⟨some ⟨O,U,none⟩,0,[]⟩);subst h1;exact BY w.heap.size g c' _ _ _ rest oMg ak Z.out.heap u w0 G mu (HI.out G Y) Z.out.runs oMg
              unfold jD at HD;go_wp2_with (at_builtin;refine mf (w0:=w0) ?_;intro mw;have mx:=Mod.pull (m:=mw) (ar 71 4 (.slice Ao no co) no (out.flatMap ao.cells));refine i9 (t:=59) (k:=1) (c:=1) (A:=⟨wr.heap.size,0,none⟩) (news:=x.cells) rfl rfl mx rfl rfl (ce rfl rfl) (by decide) (fun v hv=>pk [x] v (by simpa using hv)) (by unfold maxLen;omega) oMg ?_;clear mw mx;intro A2 c2 w6 m6)
              go_region
              have m7:Mod (w6.setCell ⟨g,0,none⟩ (.slice (some ⟨O,U,none⟩) 0 0)).drew w0 (aE w.heap.size (.cells #[.slice (some ⟨g,0,none⟩) (nr+1) c',.func (.func 131) #[] #[]] 202 (0,0))*(aE g (.cells (K.setIfInBounds 0 (.slice (some ⟨O,U,none⟩) 0 0)) 59 (0,0))*(ar 71 4 (.slice A2 (no+1) c2) (no+1) (out.flatMap ao.cells++x.cells)*S))):=Mod.drew (m:=Mod.keep (zbk:Mod (w6.setCell ⟨g,0,none⟩ (.slice (some ⟨O,U,none⟩) 0 0)) w0 _));go_wp2_with (go_at_call 134;refine(HD.out _ _ zbk m7).mono ?_;rintro e w8 ⟨rfl,E,I,p1,p2,p3,p4,m8⟩)
              go_roundg (km rest).length
              case measure=>omega
              case rel =>
               have aY:l=[]:=Zo aj.out;subst aY;have aB:=Z.out.next ay.out (h':=I) rfl rfl (by simpa using oS p1) p2 (qg.perm p1.symm fun y hy=>Z.out.runs y (Zh _ hy));exact⟨out++[x],I,E,A2,c2,no+1,nr,(oS p1).length_eq.symm,rfl,by show _=_;rw[Ze,ah.out];rfl,by show _=_;rw[p1.length_eq,ai.out],oMg,aB,(fun J Y=>jb.perm p1.symm fun y hy=>HI.out J Y y (Zh _ hy)),p3,by rw[Z4];simpa using m8⟩
             ·have cZ:(1:Int)<(M:Int):=oMg
              have df:¬(M:Int)=1:=oMg
              have dh:1<M:=oMg
              have HD:Hid (∀(u:World)(G:ba),Sub G S->Mod u w0 (jD w.heap.size (some ⟨g,0,none⟩) (nr+1) c'*(aE g (.cells (K.setIfInBounds 0 (.slice (some ⟨O,U+4,none⟩) 0 (M-1))) 59 (0,0))*G))->Calls Tryz.prog 134 #[ap w.heap.size] u fun e w'=>e=.returned (.tuple #[])/\∃E I,I.Perm rest/\ft I 0/\kr E I/\E.size=(K.setIfInBounds 0 (.slice (some ⟨O,U+4,none⟩) 0 (M-1))).size/\Mod w' w0 (jD w.heap.size (some ⟨g,0,none⟩) nr c'*(aE g (.cells E 59 (0,0))*G))):=fun u G Y mu=>by
               have h1:=ai.out;have ak:=kr.set0 (h:=HC.out) (r':=⟨some ⟨O,U+4,none⟩,M-1,[]⟩);subst h1;exact BY w.heap.size g c' _ _ _ rest oMg ak Z.out.heap u w0 G mu (HI.out G Y) Z.out.runs oMg
              unfold jD at HD;go_wp2_with (at_builtin;refine mf (w0:=w0) ?_;intro mw;have mx:=Mod.pull (m:=mw) (ar 71 4 (.slice Ao no co) no (out.flatMap ao.cells));refine i9 (t:=59) (k:=1) (c:=1) (A:=⟨wr.heap.size,0,none⟩) (news:=x.cells) rfl rfl mx rfl rfl (ce rfl rfl) (by decide) (fun v hv=>pk [x] v (by simpa using hv)) (by unfold maxLen;omega) oMg ?_;clear mw mx;intro A2 c2 w6 m6)
              go_region
              have m7:Mod (w6.setCell ⟨g,0,none⟩ (.slice (some ⟨O,U+4,none⟩) 0 (M-1))).drew w0 (aE w.heap.size (.cells #[.slice (some ⟨g,0,none⟩) (nr+1) c',.func (.func 131) #[] #[]] 202 (0,0))*(aE g (.cells (K.setIfInBounds 0 (.slice (some ⟨O,U+4,none⟩) 0 (M-1))) 59 (0,0))*(ar 71 4 (.slice A2 (no+1) c2) (no+1) (out.flatMap ao.cells++x.cells)*S))):=Mod.drew (m:=Mod.keep (zbk:Mod (w6.setCell ⟨g,0,none⟩ (.slice (some ⟨O,U+4,none⟩) 0 (M-1))) w0 _));go_wp2_with (go_at_call 134;refine(HD.out _ _ zbk m7).mono ?_;rintro e w8 ⟨rfl,E,I,p1,p2,p3,p4,m8⟩)
              go_roundg (km rest).length
              case measure=>omega
              case rel =>
               have aY:l=[]:=Zo aj.out;subst aY;have aB:=Z.out.next ay.out (h':=I) rfl rfl (by simpa using oS p1) p2 (qg.perm p1.symm fun y hy=>Z.out.runs y (Zh _ hy));exact⟨out++[x],I,E,A2,c2,no+1,nr,(oS p1).length_eq.symm,rfl,by show _=_;rw[Ze,ah.out];rfl,by show _=_;rw[p1.length_eq,ai.out],oMg,aB,(fun J Y=>jb.perm p1.symm fun y hy=>HI.out J Y y (Zh _ hy)),p3,by rw[Z4];simpa using m8⟩
            ·have cO:((nx:Int)+1==1)=false:=beq_eq_false_iff_ne.2 oMg
             have dI:¬((nx:Int)+1=1):=oMg
             have cZ:(1:Int)<(M:Int):=oMg
             have df:¬(M:Int)=1:=oMg
             have dh:1<M:=oMg
             have ag:=aj.out
             have HS:Hid (∀(u:World)(G:ba),Sub G S->Mod u w0 (jD w.heap.size (some ⟨g,0,none⟩) (nr+1) c'*(aE g (.cells (K.setIfInBounds 0 (.slice (some ⟨O,U+4,none⟩) nx (M-1))) 59 (0,0))*G))->Calls Tryz.prog 133 #[ap w.heap.size,.int .i64 0] u fun e w'=>e=.returned (.tuple #[])/\∃E I,I.Perm (⟨some ⟨O,U+4,none⟩,M-1,l⟩::rest)/\ft I 0/\kr E I/\E.size=(K.setIfInBounds 0 (.slice (some ⟨O,U+4,none⟩) nx (M-1))).size/\Mod w' w0 (jD w.heap.size (some ⟨g,0,none⟩) (nr+1) c'*(aE g (.cells E 59 (0,0))*G))):=fun u G Y mu=>by
              have ak:=kr.set0 (h:=HC.out) (r':=⟨some ⟨O,U+4,none⟩,M-1,l⟩);have cK:cQ.val ⟨some ⟨O,U+4,none⟩,M-1,l⟩=.slice (some ⟨O,U+4,none⟩) nx (M-1):=by show Value.slice _ l.length _=_;rw[ag]
              rw[cK]at ak
              have aH:jb G (⟨some ⟨O,U+4,none⟩,M-1,l⟩::rest):=fun y hy=>by
               rcases Zu.1 hy with rfl | hy
               ·refine⟨B4 (x:=x) (by have:=bC.out.1;exact this.lift Y),?_,?_⟩ <;> simp only[ag] <;> omega
               ·exact HI.out G Y y (Zh _ hy)
              have cB:qg (⟨some ⟨O,U+4,none⟩,M-1,l⟩::rest):=fun y hy=>by
               rcases Zu.1 hy with rfl | hy
               ·refine⟨fun e=>bq (ag.symm.trans (congrArg List.length e)),?_⟩
                exact(Z5.1 (Z.out.runs _ (Zj ..)).2).2
               ·exact Z.out.runs y (Zh _ hy)
              exact wS w.heap.size g (nr+1) c' 0 0 _ _ (by rw[List.length_cons,ai.out]) oMg oMg oMg (Zm 0) ak (Z.out.heap.set _) u w0 G mu aH cB
             unfold jD at HS;clear ag;go_wp2_with (at_builtin;refine mf (w0:=w0) ?_;intro mw;have mx:=Mod.pull (m:=mw) (ar 71 4 (.slice Ao no co) no (out.flatMap ao.cells));refine i9 (t:=59) (k:=1) (c:=1) (A:=⟨wr.heap.size,0,none⟩) (news:=x.cells) rfl rfl mx rfl rfl (ce rfl rfl) (by decide) (fun v hv=>pk [x] v (by simpa using hv)) (by unfold maxLen;omega) oMg ?_;clear mw mx;intro A2 c2 w6 m6)
             go_region
             have m7:Mod (w6.setCell ⟨g,0,none⟩ (.slice (some ⟨O,U+4,none⟩) nx (M-1))).drew w0 (aE w.heap.size (.cells #[.slice (some ⟨g,0,none⟩) (nr+1) c',.func (.func 131) #[] #[]] 202 (0,0))*(aE g (.cells (K.setIfInBounds 0 (.slice (some ⟨O,U+4,none⟩) nx (M-1))) 59 (0,0))*(ar 71 4 (.slice A2 (no+1) c2) (no+1) (out.flatMap ao.cells++x.cells)*S))):=Mod.drew (m:=Mod.keep (zbk:Mod (w6.setCell ⟨g,0,none⟩ (.slice (some ⟨O,U+4,none⟩) nx (M-1))) w0 _));go_wp2_with (go_at_call 133;refine(HS.out _ _ zbk m7).mono ?_;rintro e w8 ⟨rfl,E,I,p1,p2,p3,p4,m8⟩)
             go_roundg (nx+(km rest).length)
             case measure=>omega
             case rel =>
              have bK:(km I).Perm (l++km rest):=oS p1
              have aB:=Z.out.next ay.out (h':=I) rfl rfl bK p2 (qg.perm p1.symm fun y hy=>by
               rcases Zu.1 hy with rfl | hy
               ·exact⟨fun e=>bq (aj.out.symm.trans (congrArg List.length e)),(Z5.1 (Z.out.runs _ (Zj ..)).2).2⟩
               ·exact Z.out.runs y (Zh _ hy))
              exact⟨out++[x],I,E,A2,c2,no+1,nr+1,by rw[bK.length_eq,Ze,aj.out],rfl,by show _=_;rw[Ze,ah.out];rfl,by show _=_;rw[p1.length_eq,List.length_cons,ai.out],bY,aB,(fun J Y=>jb.perm p1.symm fun y hy=>by
               rcases Zu.1 hy with rfl | hy
               ·refine⟨B4 (x:=x) (by have:=bC.out.1;exact this.lift Y),?_,?_⟩ <;> simp only[aj.out] <;> omega
               ·exact HI.out J Y y (Zh _ hy)),p3,by rw[Z4];simpa using m8⟩
     | succ q =>
       obtain rfl:z=(q:Int):=oMg
       have HS:Hid (∀u,Mod u w0 (jD w.heap.size (some ⟨g,0,none⟩) (k'+1) c'*(aE g (.cells cu 59 (0,0))*S))->Calls Tryz.prog 133 #[ap w.heap.size,.int .i64 (q:Int)] u fun e w'=>e=.returned (.tuple #[])/\∃E I,I.Perm hh/\ft I q/\kr E I/\E.size=cu.size/\Mod w' w0 (jD w.heap.size (some ⟨g,0,none⟩) (k'+1) c'*(aE g (.cells E 59 (0,0))*S))):=fun u mu =>
        wS w.heap.size g (k'+1) c' q q cu hh (by rw[HQ.out.1.length_eq,Hk.out]) oMg oMg oMg (Zm _) HQ.out.2.2.1 HQ.out.2.1.but u w0 S mu ((bz.out S zbk).perm HQ.out.1.symm) (qg.perm HQ.out.1.symm av.out)
       unfold jD at HS;go_wp2_with (go_at_call 133;refine(HS.out _ m4).mono ?_;rintro e w5 ⟨rfl,bT,bW,p1,p2,p3,p4,m5⟩)
       go_roundg q
       case measure=>omega
       case rel=>exact⟨q,(q:Int)-1,bT,bW,oMg,oMg,rfl,rfl,zbj ⟨p1.trans HQ.out.1,p2,p3,p4.trans HQ.out.2.2.2⟩,m5⟩
end
end Go.Proofs.YtdfppjcaelghhaaGreatDoor
namespace Go.Sl
open Go
theorem AV (A:Option Addr)(c k:Nat)(l:List ao)(h:k<=l.length):cQ.val ⟨A,c,l.take k⟩=.slice A k c:=by
 show Value.slice A (l.take k).length c=_;rw[Zt,YJ h]
theorem As {l:List ao}{k:Nat}(U:1<=k)(I:k<=l.length)(h:∀j,j<k->(l.getD j default).key=(l.getD 0 default).key)(E:k=l.length\/(l.getD k default).key≠(l.getD 0 default).key):gE l=l.take k::gE (l.drop k):=by
 cases l with
 | nil=>simp at I;omega
 | cons x l =>
   obtain⟨q,rfl⟩:∃q,k=q+1:=⟨k-1,oMg⟩
   have hp:∀(l:List ao)(q:Nat),q<=l.length->(∀j,j<q->(l.getD j default).key=x.key)->(q=l.length\/(l.getD q default).key≠x.key)->l.takeWhile (fun y=>decide (y.key=x.key))=l.take q/\l.dropWhile (fun y=>decide (y.key=x.key))=l.drop q:=by
    intro l
    induction l with
    | nil=>intro q J _ _;simp at J;subst J;simp
    | cons y l O =>
      intro q J B z
      cases q with
      | zero =>
        have K:¬y.key=x.key:=by
         rcases z with z | z
         ·simp at z
         ·simpa using z
        simp[K]
      | succ q =>
        have K:y.key=x.key:=by simpa using B 0 oMg
        have:=O q (by simpa using J) (fun j M=>by simpa using B (j+1) oMg) (by
         rcases z with z | z
         ·left;simpa using z
         ·right;simpa using z)
        simp[K,this.1,this.2]
   have B:=hp l q (by simpa using I) (fun j M=>by simpa using h (j+1) oMg) (by
    rcases E with z | z
    ·left;simpa using z
    ·right;simpa using z)
   rw[gE,B.1,B.2];simp
end Go.Sl
namespace Go.Proofs.YtdfppjcaelghhaaGreatDoor
open Go.RowKit Go.Sl Go.Shelf
attribute [local go_sem] ab bj bh bd Oper.semAt_some
structure yn (A:Option Addr)(N:Nat)(l:List ao)(pre:List cQ)(x:cQ):Prop where
 runs:∃rest,gE l=pre.map (·.l)++x.l::rest
 reads:∀SS,bp SS A N l->bp SS x.A x.l.length x.l
 cap:x.l.length<=x.c
theorem Cg (p N c:Nat)(A:Option Addr)(l:List ao)(aJ:l.length=N)(hN:N<=1000000)(hc:N<=c)(w0:World) :
 Im Tryz.prog w0 203 #[ap p] (fun x:cQ=>#[x.val]) (fun T=>bp T A N l) (aE p (.cells #[.slice A N c] 59 (0,0))) (fun _=>sC) (fun xs=>xs.map (·.l)=gE l) (fun _=>True) (yn A N l):=by
 intro yl J Jx W aP hR m;show Calls Tryz.prog 203 #[.func (.yield yl) #[] #[],ap p] W _;have aN:=zbj aJ;clear aJ;go_enter Tryz.func203,Tryz.ntmps203
 go_wp2_with fail
 go_loopg [3] N (fun gk v3 wr=>∃(pre:List cQ)(Ar:Option Addr)(B y:Nat)(rest:List ao),gk=B/\B<=y/\B<=N/\Hid (rest.length=B)/\Hid (gE l=pre.map (·.l)++gE rest)/\Hid (∀I,bp I A N l->bp I Ar B rest)/\Mod wr w0 (J pre*aE p (.cells #[.slice Ar B y] 59 (0,0))))
 case atStart=>exact⟨[],A,N,c,l,rfl,hc,Zm _,aN.out,by show _=_;simp,(fun _ h=>h),m⟩
 case round =>
  obtain⟨pre,Ar,B,y,rest,aX,aV,aY,z,K,ak,m2⟩:=hrel;by_cases h0:B=0
  ·subst h0
   have aT:rest=[]:=Zo z.out;have Y:Hid (pre.map (·.l)=gE l):=by show _=_;rw[K.out,aT];simp[gE]
   go_wp2_with fail
   go_end0
   exact⟨⟨_,rfl⟩,.inl ⟨pre,Y.out,Mod.to (m:=Mod.lP (m:=m2)) (eI _).symm⟩⟩
  ·have aU:(0:Int)<(B:Int):=oMg
   have rJ:=ak.out _ (aP pre);obtain⟨b,o,rfl⟩:=gw m2 (rJ.lift zbk) (k:=0) oMg;have r0:=jc rJ (k:=0) (by rw[z.out];omega);have k0:=r0.1;simp only[Xj,Nat.add_zero]at k0;have aL:rest[0]'(by rw[z.out];omega)=rest.getD 0 default:=by rw[Zw,Zg];rfl
   rw[aL]at k0;clear aL r0;obtain⟨M,af⟩:∃M,(rest.getD 0 default).key=M:=⟨_,rfl⟩;rw[af]at k0;have O:=zbj af;clear af;go_wp2_with fail
   go_loopg [3] (B-1) (fun gj v3 wj=>∃k:Nat,1<=k/\k<=B/\gj=B-k/\v3=.int .i64 (k:Int)/\Hid (∀j,j<k->(rest.getD j default).key=M)/\Mod wj w0 (J pre*aE p (.cells #[.slice (some ⟨b,o,none⟩) B y] 59 (0,0))))
   case atStart=>exact⟨1,Zm _,oMg,rfl,rfl,(fun j hj=>by
                                                                    obtain rfl:j=0:=oMg
                                                                    exact O.out),m2⟩
   case round =>
    obtain⟨k,aH,aI,aW,rfl,ae,m3⟩:=hrel;by_cases aK:k<B
    ·have aS:(k:Int)<(B:Int):=oMg
     have rk:=jc rJ (k:=k) (by rw[z.out];omega);have kk:=rk.1;have aM:rest[k]'(by rw[z.out];omega)=rest.getD k default:=by rw[Zw,Zg];rfl
     rw[aM]at kk;clear aM rk;obtain⟨aa,ag⟩:∃aa,(rest.getD k default).key=aa:=⟨_,rfl⟩;rw[ag]at kk;have aj:=zbj ag;clear ag;by_cases ai:aa=M
     ·have aO:Hid (∀j,j<k+1->(rest.getD j default).key=M):=fun j hj=>by
       by_cases e:j=k
       ·subst e;rw[aj.out];exact ai
       ·exact ae.out j oMg
      have hb:(aa.toList==M.toList)=true:=by rw[ai];simp
      clear ai;go_wp2_with fail
      go_quiet (fail)
      go_wp2_with fail
      go_roundg (B-(k+1))
      case measure=>omega
      case rel=>exact⟨k+1,oMg,aK,rfl,by go_num,aO,Mod.drewN (m:=m3) _⟩
     ·have hb:(aa.toList==M.toList)=false:=beq_eq_false_iff_ne.2 fun e=>ai (uB e)
      have Y:Hid (k=rest.length\/(rest.getD k default).key≠(rest.getD 0 default).key):=.inr (by rw[aj.out,O.out];exact ai);clear ai;go_wp2_with fail
      go_quiet (fail)
      go_upto_region 4 with(fail)
      have U:k<=rest.length:=by rw[z.out];exact aI
      have ah:=As aH U (fun j hj=>(ae.out j hj).trans O.out.symm) Y.out
      have au:yn A N l pre ⟨some ⟨b,o,none⟩,y,rest.take k⟩:=by
       refine⟨⟨_,by rw[K.out,ah]⟩,fun I h=>?_,?_⟩
       ·have V:=(ak.out I h).part 0 k oMg
        have e:(some (⟨b,o,none⟩:Addr)).map (·.add (0*4))=some ⟨b,o,none⟩:=by
         show some ((⟨b,o,none⟩:Addr).add (0*4))=_;rw[jl _ _ rfl];simp
        rw[e,Z6]at V;show bp I _ (rest.take k).length (rest.take k);rw[Zt,YJ U];exact V
       ·show (rest.take k).length<=y
        rw[Zt];omega
      obtain⟨fn,tmps,E,Z,hy,av⟩:=hR pre _ _ (wr.drewN nq) au (Mod.drewN (m:=m3) nq)
      have hy:(Instr.yield yl #[.slice (some ⟨b,o,none⟩) k y]).run Tryz.prog (wr.drewN nq)=.ok (.round yl fn tmps E Z) (wr.drewN nq):=by
       have h:(Instr.yield yl #[cQ.val ⟨some ⟨b,o,none⟩,y,rest.take k⟩]).run Tryz.prog (wr.drewN nq)=.ok (.round yl fn tmps E Z) (wr.drewN nq):=hy;rw[AV _ _ _ _ U]at h;exact h
      have HP:Hid (gE l=(pre++[(⟨some ⟨b,o,none⟩,y,rest.take k⟩:cQ)]).map (·.l)++gE (rest.drop k)):=by
       show _=_;rw[K.out,ah];simp
      have ax:Hid (∀I,bp I A N l->bp I (if y=k then some ⟨b,o,none⟩else some ⟨b,o+k*4,none⟩) (B-k) (rest.drop k)):=fun I h=>by
       by_cases e:y=k
       ·rw[if_pos e]
        have aB:B-k=0:=oMg
        have hd:rest.drop k=[]:=Yj (by rw[z.out];omega);rw[aB,hd];exact bp.jE _
       ·rw[if_neg e]
        have V:=(ak.out I h).part k (B-k) oMg
        have e2:(some (⟨b,o,none⟩:Addr)).map (·.add (k*4))=some ⟨b,o+k*4,none⟩:=by
         show some ((⟨b,o,none⟩:Addr).add (k*4))=_;rw[jl _ _ rfl]
        rw[e2,Zn (by rw[ZF,z.out];omega)]at V;exact V
      have aR:(k:Int)<=(y:Int):=oMg
      have aQ:(0:Int)<=(k:Int):=oMg
      clear ah U au;refine(wpIn_wide (n:=6)).1 ?_
      gi_wp2
      refine av.mono ?_;rintro e W3 (⟨rfl,m5⟩ | ⟨rfl,m5⟩)
      ·gi_wp2
       clear av hy;by_cases ay:y=k
       ·exact absurd aK oMg
       ·have aD:k<y:=oMg
        have aF:(k:Int)<(y:Int):=oMg
        have aG:¬(y:Int)=(k:Int):=oMg
        go_wp2_with fail
        have m6:Mod (W3.setCell ⟨p,0,none⟩ (.slice (some ⟨b,o+k*4,none⟩) (B-k) (y-k))) w0 _:=zbk;simp only[Zb,Zc,eI]at m6;go_roundg (B-k)
        case measure=>omega
        case rel=>exact⟨_,some ⟨b,o+k*4,none⟩,B-k,y-k,rest.drop k,rfl,oMg,oMg,by show _=_;rw[ZF,z.out],HP,(fun I h=>by have V:=ax.out I h;rwa [if_neg ay]at V),Mod.to (m:=m6) (by ac_rfl)⟩
      ·gi_wp2
       go_wp2
       refine bodyPost_ret (results_none rfl _ _ _) rfl ?_;exact⟨⟨_,rfl⟩,.inr ⟨_,trivial,Mod.to (m:=Mod.lP (m:=m5)) (eI _).symm⟩⟩
    ·have aS:¬(k:Int)<(B:Int):=oMg
     have Y:Hid (k=rest.length\/(rest.getD k default).key≠(rest.getD 0 default).key):=.inl (by rw[z.out];omega);go_wp2_with fail
     go_quiet (fail)
     go_upto_region 4 with(fail)
     have U:k<=rest.length:=by rw[z.out];exact aI
     have ah:=As aH U (fun j hj=>(ae.out j hj).trans O.out.symm) Y.out
     have au:yn A N l pre ⟨some ⟨b,o,none⟩,y,rest.take k⟩:=by
      refine⟨⟨_,by rw[K.out,ah]⟩,fun I h=>?_,?_⟩
      ·have V:=(ak.out I h).part 0 k oMg
       have e:(some (⟨b,o,none⟩:Addr)).map (·.add (0*4))=some ⟨b,o,none⟩:=by
        show some ((⟨b,o,none⟩:Addr).add (0*4))=_;rw[jl _ _ rfl];simp
       rw[e,Z6]at V;show bp I _ (rest.take k).length (rest.take k);rw[Zt,YJ U];exact V
      ·show (rest.take k).length<=y
       rw[Zt];omega
     obtain⟨fn,tmps,E,Z,hy,av⟩:=hR pre _ _ (wr.drewN nq) au (Mod.drewN (m:=m3) nq)
     have hy:(Instr.yield yl #[.slice (some ⟨b,o,none⟩) k y]).run Tryz.prog (wr.drewN nq)=.ok (.round yl fn tmps E Z) (wr.drewN nq):=by
      have h:(Instr.yield yl #[cQ.val ⟨some ⟨b,o,none⟩,y,rest.take k⟩]).run Tryz.prog (wr.drewN nq)=.ok (.round yl fn tmps E Z) (wr.drewN nq):=hy;rw[AV _ _ _ _ U]at h;exact h
     have HP:Hid (gE l=(pre++[(⟨some ⟨b,o,none⟩,y,rest.take k⟩:cQ)]).map (·.l)++gE (rest.drop k)):=by
      show _=_;rw[K.out,ah];simp
     have ax:Hid (∀I,bp I A N l->bp I (if y=k then some ⟨b,o,none⟩else some ⟨b,o+k*4,none⟩) (B-k) (rest.drop k)):=fun I h=>by
      by_cases e:y=k
      ·rw[if_pos e]
       have aB:B-k=0:=oMg
       have hd:rest.drop k=[]:=Yj (by rw[z.out];omega);rw[aB,hd];exact bp.jE _
      ·rw[if_neg e]
       have V:=(ak.out I h).part k (B-k) oMg
       have e2:(some (⟨b,o,none⟩:Addr)).map (·.add (k*4))=some ⟨b,o+k*4,none⟩:=by
        show some ((⟨b,o,none⟩:Addr).add (k*4))=_;rw[jl _ _ rfl]
       rw[e2,Zn (by rw[ZF,z.out];omega)]at V;exact V
     have aR:(k:Int)<=(y:Int):=oMg
     have aQ:(0:Int)<=(k:Int):=oMg
     clear ah U au;refine(wpIn_wide (n:=6)).1 ?_
     gi_wp2
     refine av.mono ?_;rintro e W3 (⟨rfl,m5⟩ | ⟨rfl,m5⟩)
     ·gi_wp2
      clear av hy;by_cases ay:y=k
      ·subst ay
       have az:B-y=0:=oMg
       go_wp2_with fail
       have m6:Mod (W3.setCell ⟨p,0,none⟩ (.slice (some ⟨b,o,none⟩) 0 0)) w0 _:=zbk;simp only[Zb,Zc,eI]at m6;go_roundg 0
       case measure=>omega
       case rel=>exact⟨_,some ⟨b,o,none⟩,0,0,rest.drop y,rfl,oMg,oMg,by show _=_;rw[ZF,z.out,az],HP,(fun I h=>by have V:=ax.out I h;rw[az]at V;simpa using V),Mod.to (m:=m6) (by ac_rfl)⟩
      ·have aD:k<y:=oMg
       have aF:(k:Int)<(y:Int):=oMg
       have aG:¬(y:Int)=(k:Int):=oMg
       go_wp2_with fail
       have m6:Mod (W3.setCell ⟨p,0,none⟩ (.slice (some ⟨b,o+k*4,none⟩) (B-k) (y-k))) w0 _:=zbk;simp only[Zb,Zc,eI]at m6;go_roundg (B-k)
       case measure=>omega
       case rel=>exact⟨_,some ⟨b,o+k*4,none⟩,B-k,y-k,rest.drop k,rfl,oMg,oMg,by show _=_;rw[ZF,z.out],HP,(fun I h=>by have V:=ax.out I h;rwa [if_neg ay]at V),Mod.to (m:=m6) (by ac_rfl)⟩
     ·gi_wp2
      go_wp2
      refine bodyPost_ret (results_none rfl _ _ _) rfl ?_;exact⟨⟨_,rfl⟩,.inr ⟨_,trivial,Mod.to (m:=Mod.lP (m:=m5)) (eI _).symm⟩⟩
end Go.Proofs.YtdfppjcaelghhaaGreatDoor
namespace Go.Sl
open Go
def da (R:List fI):List Value:=R.flatMap fun q=>[.string q.1,.string q.2]
def jx (s:Nat)(pre:List cQ):List fI:=pre.flatMap fun x=>kA s x.l
theorem PN (s:Nat)(pre:List cQ)(x:cQ):jx s (pre++[x])=jx s pre++kA s x.l:=by simp[jx]
theorem GW {s:Nat}{pre:List cQ}{l:List ao}(h:pre.map (·.l)=gE l):jx s pre=qG l s:=by
 unfold jx qG;rw[<-h,List.flatMap_map]
theorem z7 (R:List fI):∀u∈da R,u.oneCell'=true:=by
 intro u z;obtain⟨x,_,y⟩:=YP.1 z;simp only[Zu,XB,or_false]at y;rcases y with rfl | rfl <;> rfl
end Go.Sl
namespace Go.Proofs.YtdfppjcaelghhaaGreatDoor
open Go.RowKit Go.Sl Go.Shelf
attribute [local go_sem] ab bj bh bd Oper.semAt_some
instance Oy:yH Tryz.prog 34 84 2 32:=⟨Tryz.underlying34,by kernel_rfl⟩
theorem Dk (s:Nat)(l:List ao):(lM (fun f=>decide (f.seq<=s)) l = -1/\kA s l=[])\/∃(i:Nat)(y:i<l.length),lM (fun f=>decide (f.seq<=s)) l=(i:Int)/\kA s l=if l[i].gone then []else [(l[i].key,l[i].value)]:=by
 unfold lM kA
 cases z:l.findIdx? (fun f=>decide (f.seq<=s))with
 | none =>
   left;refine⟨rfl,?_⟩
   have:l.find? (fun f=>decide (f.seq<=s))=none:=by
    rw[Y9];intro x E;have:=ZV.1 z x E;simpa using this
   rw[this]
 | some i =>
   right;obtain⟨y,hp,hall⟩:=Zk.1 z;refine⟨i,y,rfl,?_⟩
   have:l.find? (fun f=>decide (f.seq<=s))=some l[i]:=by
    rw[zam];exact⟨hp,i,y,rfl,fun j B=>by have:=hall j B;simpa using this⟩
   rw[this]
instance Pj {α:Sort _}(F:α->ba)(T:ba) [s:∀a,Sub (F a) T]:Sub (ex F) T:=⟨fun x h=>by
 obtain⟨a,h⟩:=zh.1 h
 exact(s a).sub x h⟩
theorem xO (A:Option Addr)(n c:Nat)(w w0:World)(S:ba)(m:Mod w w0 S):Calls Tryz.prog 135 #[.slice A n c] w fun e y=>∃p,e=.returned (.func (.func 203) #[] #[ap p])/\Mod y w0 (aE p (.cells #[.slice A n c] 59 (0,0))*S):=by
 go_enter Tryz.func135,Tryz.ntmps135
 go_wp2_with fail
 go_ret
 exact⟨_,rfl,zbk⟩
theorem Oq {l:List Nat}{x:Nat}(h:x∈l):x<=l.sum:=by
 induction l with
 | nil=>cases h
 | cons y l z =>
   rw[List.sum_cons];rcases Zu.1 h with rfl | h
   ·omega
   ·have:=z h;omega
theorem Au {l:List ao}{r:List ao}(h:r∈gE l):r.length<=l.length:=by
 have y:=congrArg List.length (kN l);rw[zax]at y;have z:=Oq (ZC (f:=List.length) h);omega
theorem KC (s:Nat)(r:List ao):(kA s r).length<=1:=by
 unfold kA
 split
 ·split <;> simp
 ·simp
theorem Nj {A:Option Addr}{N:Nat}{l:List ao}{pre:List cQ}{x:cQ}(s:Nat)(h:yn A N l pre x):(jx s pre).length<=l.length:=by
 obtain⟨rest,hr⟩:=h.runs
 have M:(jx s pre).length<=pre.length:=by
  unfold jx;generalize pre=q
  induction q with
  | nil=>simp
  | cons y q z=>rw[Zp,Ze,List.length_cons];have:=KC s y.l;omega
 have E:(gE l).length<=l.length:=by
  have I:=congrArg List.length (kN l);rw[zax]at I
  have J:∀rs:List (List ao),(∀r∈rs,r≠[])->rs.length<=(rs.map List.length).sum:=by
   intro rs
   induction rs with
   | nil=>simp
   | cons r rs z =>
     intro h;have B:=z fun x K=>h x (Zh _ K);have O:=ZO.2 (h r (Zj ..));rw[Zy,List.sum_cons,List.length_cons];omega
  have B:∀l:List ao,∀r∈gE l,r≠[]:=by
   intro l
   induction l using gE.induct with
   | case1=>simp[gE]
   | case2 x l z =>
     rw[gE];intro r hr;rcases Zu.1 hr with rfl | hr
     ·simp
     ·exact z r hr
  have:=J _ (B l);omega
 rw[hr,Ze,ZW]at E;omega
theorem GD (A:Option Addr)(N c s:Nat)(l:List ao)(hN:N<=1000000)(hc:N<=c)(_hs:s<18446744073709551616)(hrise:fc l)(w w0:World)(S:ba)(m:Mod w w0 S)(r:bp S A N l) :
 Calls Tryz.prog 87 #[.slice A N c,.int .u64 (s:Int)] w fun e w'=>∃B c',e=.returned (.tuple #[.slice B (qG l s).length c',.int .i64 0])/\Mod w' w0 (ar 84 2 (.slice B (qG l s).length c') (qG l s).length (da (qG l s))*S):=by
 have HR:=zbj (fun(u:World)(G:ba)(hs:Sub G S)(mu:Mod u w0 G)=>fZ A N c l u w0 G mu (r.lift hs) oMg);rw[show rH l=true from decide_eq_true hrise]at HR;obtain⟨out,af⟩:∃out,qG l s=out:=⟨_,rfl⟩;have az:=zbj af;rw[af];clear af;refine callsIn_wide.1 (callsIn_of_wp_marks (n:=9) Tryz.func87 rfl trivial ?_);simp only[Tryz.ntmps87,Zl,List.length_cons,List.length_nil,Nat.reduceAdd,Nat.reduceSub,YL,Array.replicate_zero,Y6,YR,List.nil_append,List.cons_append]
 gi_wp2_with first
  | (refine⟨trivial,?_⟩;gi_at_call 135;refine(callsIn_wide.2 (xO A N c _ w0 _ m1)).mono ?_;rintro e w2 ⟨p,rfl,m2⟩)
  | (refine⟨trivial,?_⟩;gi_at_call 132;refine(callsIn_wide.2 (HR.out _ _ zbk zbk)).mono ?_;rintro e w1 ⟨rfl,m1⟩)
 refine lX (gf:=203) (lb:=#[ap p]) rfl (enters_of Tryz.func203 kRf rfl) (Cg p N c A l r.len hN hc w0) (fun _=>rfl)
  (fun pre=>ex fun q:Option Addr×Nat=>aE (w.heap.size+1) (.cells #[.slice q.1 (jx s pre).length q.2] 34 (0,0))*(ar 84 2 (.slice q.1 (jx s pre).length q.2) (jx s pre).length (da (jx s pre))*(aE w.heap.size (.cells #[.int .u64 (s:Int)] 29 (0,0))*S)))
  (fun _ _=>xX False) ?start (fun pre Y=>?reads) ?acts ?assign ?body ?done ?stop
 case reads=>exact r.lift zbk
 case start =>
  refine Mod.to (m:=Mod.shut (none,0) (G:=fun q:Option Addr×Nat=>aE (w.heap.size+1) (.cells #[.slice q.1 (jx s []).length q.2] 34 (0,0))*(ar 84 2 (.slice q.1 (jx s []).length q.2) (jx s []).length (da (jx s []))*(aE w.heap.size (.cells #[.int .u64 (s:Int)] 29 (0,0))*S))) (F:=aE p (.cells #[.slice A N c] 59 (0,0))) (m:=Mod.to (m:=ey (e:=84) (size:=2) m2) ?_)) rfl;show _=(aE (w.heap.size+1) (.cells #[.slice none 0 0] 34 (0,0))*(ar 84 2 (.slice none 0 0) 0 []*_))*_
  ac_rfl
 case acts=>exact fun x=>{tmps:=#[.slice A N c,.int .u64 (s:Int),undef,ap w.heap.size,ap (w.heap.size+1),.int .i64 0,x.val,undef,.slice A N c,.bool true,.bool false,.slice A N c,.func (.func 203) #[] #[ap p],x.val,undef,undef,undef,undef,undef,undef,undef,undef,undef,undef,undef,undef,undef,undef,undef,undef,undef,undef,undef,undef,undef,undef,undef,undef,undef,undef,undef,undef,undef,undef],defers:=[]}
 case assign =>
  intro yl x W K hK
  gi_wp2
  exact hK
 case body =>
  intro yl pre x X W hN m2;obtain⟨⟨A0,c0⟩,m3⟩:=Mod.open (m:=m2);have m4:Mod W w0 (aE (w.heap.size+1) (.cells #[.slice A0 (jx s pre).length c0] 34 (0,0))*(ar 84 2 (.slice A0 (jx s pre).length c0) (jx s pre).length (da (jx s pre))*(aE w.heap.size (.cells #[.int .u64 (s:Int)] 29 (0,0))*(S*X)))):=Mod.to (m:=m3) (by ac_rfl);have ai:x.l∈gE l:=by obtain⟨rest,hr⟩:=hN.runs;rw[hr];simp
  have ay:=Au ai;have aG:=Nj s hN;rw[r.len]at ay aG;have aa:=zbj (PN s pre x);have V:=fun SS h=>hN.reads SS h;obtain⟨xA,xc,xl⟩:=x;simp only at ay V aa;have ae:Hid (∀(u:World)(G:ba),Mod u w0 G->Sub G S->Calls Tryz.prog 136 #[.slice xA xl.length xc,.int .u64 (s:Int)] u fun e w'=>e=.returned (.int .i64 (lM (fun f=>decide (f.seq<=s)) xl))/\Mod w' w0 G):=fun u G mu hg=>xP s xA xl.length xc xl u w0 G mu (V G (r.lift hg)) oMg;have HX:Hid (∀G,Sub G S->bp G xA xl.length xl):=fun G hg=>V G (r.lift hg);clear hN ai m2 m3 V;have ah:=Dk s xl;generalize jx s pre=ro at *;obtain⟨nx,ag⟩:∃nx,xl.length=nx:=⟨_,rfl⟩;have ak:=zbj ag;rw[ag]at ay ae HX;show Code.wpIn _ _ _ _ _ {tmps:=#[_,_,_,_,_,_,.slice xA xl.length xc,_,_,_,_,_,_,.slice xA xl.length xc,_,_,_,_,_,_,_,_,_,_,_,_,_,_,_,_,_,_,_,_,_,_,_,_,_,_,_,_,_,_],defers:=[]} _;rw[ag];clear ag;obtain⟨Z,av⟩:∃Z,ro.length=Z:=⟨_,rfl⟩;rw[av]at m4 aG;have aj:=zbj av;clear av;obtain⟨z,hz⟩:∃z,lM (fun f=>decide (f.seq<=s)) xl=z:=⟨_,rfl⟩;rw[hz]at ah ae;clear hz;rcases ah with⟨rfl,J⟩ | ⟨i,hi,rfl,J⟩
  ·rw[J,ZH]at aa
   clear J
   gi_wp2_with (refine⟨trivial,?_⟩;gi_at_call 136;refine(CallsIn.inRound yl (callsIn_wide.2 (ae.out _ _ m4 zbk))).mono ?_;rintro e w3 ⟨rfl,m5⟩)
   show Mod _ w0 (ex (fun q:Option Addr×Nat=>aE (w.heap.size+1) (.cells #[.slice q.1 _ q.2] 34 (0,0))*(ar 84 2 (.slice q.1 _ q.2) _ _*_))*X);rw[aa.out,aj.out];refine Mod.shut (A0,c0) (m:=Mod.to (m:=m5) ?_);show aE (w.heap.size+1) (.cells #[.slice A0 Z c0] 34 (0,0))*_=_
   ac_rfl
  ·have aM:(i:Int)<(nx:Int):=by have:=ak.out;omega
   have aK:(0:Int)<=(i:Int):=oMg
   have ax:=HX.out S zbk;obtain⟨b,o,rfl⟩:=gw m4 (ax.lift zbk) (k:=i) (by rw[<-ak.out];exact hi);obtain⟨aB,aJ,aD,aF⟩:=jc ax hi;clear ax;have aL:i<nx:=by rw[<-ak.out];exact hi
   generalize xl[i]=y at *;clear hi
   cases hg:y.gone with
   | true =>
     rw[hg]at aD;rw[hg,if_pos rfl]at J;rw[J,ZH]at aa;clear J
     gi_wp2_with (refine⟨trivial,?_⟩;gi_at_call 136;refine(CallsIn.inRound yl (callsIn_wide.2 (ae.out _ _ m4 zbk))).mono ?_;rintro e w3 ⟨rfl,m5⟩)
     show Mod _ w0 (ex (fun q:Option Addr×Nat=>aE (w.heap.size+1) (.cells #[.slice q.1 _ q.2] 34 (0,0))*(ar 84 2 (.slice q.1 _ q.2) _ _*_))*X);rw[aa.out,aj.out];refine Mod.shut (A0,c0) (m:=Mod.to (m:=m5) ?_);show aE (w.heap.size+1) (.cells #[.slice A0 Z c0] 34 (0,0))*_=_
     ac_rfl
   | false =>
     rw[hg]at aD;rw[hg,if_neg (by decide)]at J;rw[J]at aa;clear J
     gi_wp2_with (refine⟨trivial,?_⟩;gi_at_call 136;refine(CallsIn.inRound yl (callsIn_wide.2 (ae.out _ _ m4 zbk))).mono ?_;rintro e w3 ⟨rfl,m5⟩)
     clear m4;obtain⟨yk,ys,yg,yv⟩:=y;have aB:bw S b (o+i*4) (.string yk):=aB;have aF:bw S b (o+i*4+3) (.string yv):=aF;refine ud 15 (fun u=>u.cell? ⟨w.heap.size+1,0,none⟩=some (.slice A0 Z c0)/\u.cell? ⟨b,o+i*4,none⟩=some (.string yk)/\u.cell? ⟨b,o+i*4+3,none⟩=some (.string yv)) kRf kRf (fun⟨_,_,h⟩=>h) ⟨Za,bj,bj⟩ (fun E=>?_);simp only[Zl,List.length_cons,List.length_nil,Nat.reduceAdd];refine cj 0 (some 28) (v:=?_) rfl rfl kRf (by decide) kRf kRf kRf (fun _ _ _ h=>h) (Or.inl ⟨by rfl,?_⟩) E ?_;rotate_left 1
     ·(intro u I;(try dsimp only at I);obtain⟨M,O,U⟩:=I;go_simp;try with_reducible rfl)
     simp only[Act.put,Zb,Zc,Zd];refine cj 1 (some 29) (v:=?_) rfl rfl kRf (by decide) kRf kRf kRf (fun _ _ _ h=>h) (Or.inl ⟨by rfl,?_⟩) E ?_;rotate_left 1
     ·(intro u I;(try dsimp only at I);obtain⟨M,O,U⟩:=I;go_simp;try with_reducible rfl)
     simp only[Act.put,Zb,Zc,Zd];refine cj 2 (some 30) (v:=?_) rfl rfl kRf (by decide) kRf kRf kRf (fun _ _ _ h=>h) (Or.inl ⟨by rfl,?_⟩) E ?_;rotate_left 1
     ·(intro u I;(try dsimp only at I);obtain⟨M,O,U⟩:=I;go_simp;try with_reducible rfl)
     simp only[Act.put,Zb,Zc,Zd];refine cj 3 (some 31) (v:=?_) rfl rfl kRf (by decide) kRf kRf kRf (fun _ _ _ h=>h) (Or.inl ⟨by rfl,?_⟩) E ?_;rotate_left 1
     ·(intro u I;(try dsimp only at I);obtain⟨M,O,U⟩:=I;go_simp;try with_reducible rfl)
     simp only[Act.put,Zb,Zc,Zd];refine cj 4 (some 32) (v:=?_) rfl rfl kRf (by decide) kRf kRf kRf (fun _ _ _ h=>h) (Or.inl ⟨by rfl,?_⟩) E ?_;rotate_left 1
     ·(intro u I;(try dsimp only at I);obtain⟨M,O,U⟩:=I;go_simp;try with_reducible rfl)
     simp only[Act.put,Zb,Zc,Zd];refine cj 5 (some 33) (v:=?_) rfl rfl kRf (by decide) kRf kRf kRf (fun _ _ _ h=>h) (Or.inl ⟨by rfl,?_⟩) E ?_;rotate_left 1
     ·(intro u I;(try dsimp only at I);obtain⟨M,O,U⟩:=I;go_simp;try with_reducible rfl)
     simp only[Act.put,Zb,Zc,Zd];refine cj 6 (some 34) (v:=?_) rfl rfl kRf (by decide) kRf kRf kRf (fun _ _ _ h=>h) (Or.inl ⟨by rfl,?_⟩) E ?_;rotate_left 1
     ·(intro u I;(try dsimp only at I);obtain⟨M,O,U⟩:=I;go_simp;try with_reducible rfl)
     simp only[Act.put,Zb,Zc,Zd];refine cj 7 (some 35) (v:=?_) rfl rfl kRf (by decide) kRf kRf kRf (fun _ _ _ h=>h) (Or.inl ⟨by rfl,?_⟩) E ?_;rotate_left 1
     ·(intro u I;(try dsimp only at I);obtain⟨M,O,U⟩:=I;go_simp;try with_reducible rfl)
     simp only[Act.put,Zb,Zc,Zd];refine cj 8 (some 36) (v:=?_) rfl rfl kRf (by decide) kRf kRf kRf (fun _ _ _ h=>h) (Or.inl ⟨by rfl,?_⟩) E ?_;rotate_left 1
     ·(intro u I;(try dsimp only at I);obtain⟨M,O,U⟩:=I;go_simp;try with_reducible rfl)
     simp only[Act.put,Zb,Zc,Zd];refine cj 9 (some 37) (v:=?_) rfl rfl kRf (by decide) kRf kRf kRf (fun _ _ _ h=>h) (Or.inl ⟨by rfl,?_⟩) E ?_;rotate_left 1
     ·(intro u I;(try dsimp only at I);obtain⟨M,O,U⟩:=I;go_simp;try with_reducible rfl)
     simp only[Act.put,Zb,Zc,Zd];refine cj 10 (some 38) (v:=?_) rfl rfl kRf (by decide) kRf kRf kRf (fun _ _ _ h=>h) (Or.inl ⟨by rfl,?_⟩) E ?_;rotate_left 1
     ·(intro u I;(try dsimp only at I);obtain⟨M,O,U⟩:=I;go_simp;try with_reducible rfl)
     simp only[Act.put,Zb,Zc,Zd];refine cj 11 (some 39) (v:=?_) rfl rfl kRf (by decide) kRf kRf kRf (fun _ _ _ h=>h) (Or.inl ⟨by rfl,?_⟩) E ?_;rotate_left 1
     ·(intro u I;(try dsimp only at I);obtain⟨M,O,U⟩:=I;go_simp;try with_reducible rfl)
     simp only[Act.put,Zb,Zc,Zd];refine cj 12 (some 40) (v:=?_) rfl rfl kRf (by decide) kRf kRf kRf (fun _ _ _ h=>h) (Or.inl ⟨by rfl,?_⟩) E ?_;rotate_left 1
     ·(intro u I;(try dsimp only at I);obtain⟨M,O,U⟩:=I;go_simp;try with_reducible rfl)
     simp only[Act.put,Zb,Zc,Zd];have m6:Mod w3 w0 (ar 84 2 (.slice A0 Z c0) Z (da ro)*(aE (w.heap.size+1) (.cells #[.slice A0 Z c0] 34 (0,0))*(aE w.heap.size (.cells #[.int .u64 (s:Int)] 29 (0,0))*(S*X)))):=Mod.to (m:=m5) (by ac_rfl);refine aw (rs:=[13]) kRf (by simp) (am.cons (some 41) rfl rfl rfl (fun K hK=>?_) am.nil);go_simp
     have mB:Mod (w3.alloc (.cells #[.string yk,.string yv] 84)).drew w0 (ar 84 2 (.slice A0 Z c0) Z (da ro)*(aE w3.heap.size (.cells #[.string yk,.string yv] 84 (0,0))*(aE (w.heap.size+1) (.cells #[.slice A0 Z c0] 34 (0,0))*(aE w.heap.size (.cells #[.int .u64 (s:Int)] 29 (0,0))*(S*X))))):=Mod.to (m:=Mod.drew (m:=Mod.alloc (m:=m6) (n:=w3.heap.size) (hn:=⟨rfl⟩) _)) (cC _ _ _);refine hK.out (.slice (some ⟨w3.heap.size,0,none⟩) 1 1) _ ⟨Za,bj,bj⟩ (fun E=>?_);clear hK K;simp only[Act.put,Zb,Zc,Zd];obtain⟨w9,aH⟩:∃u,u=(w3.alloc (.cells #[.string yk,.string yv] 84)).drew:=⟨_,rfl⟩;rw[<-aH]at mB E ⊢;clear aH m6 m5;refine aw (rs:=[14]) kRf (by simp) (am.cons (some 42) rfl rfl rfl (fun K hK=>?_) am.nil);refine mz (t:=34) (s:=.tmp 28) (x:=.tmp 41) rfl mB (v:=.slice A0 Z c0) rfl (A:=⟨w3.heap.size,0,none⟩) (k:=1) (c:=1) (news:=[.string yk,.string yv]) rfl (ce rfl rfl) (by decide) (fun v hv=>z7 [(yk,yv)] v (by simpa [da]using hv)) (by unfold maxLen;omega) oMg ?_;intro A3 c3 aI aN;refine hK.out (.slice A3 (Z+1) c3) _ ⟨Za,bj,bj⟩ (fun E=>?_);clear hK K;simp only[Act.put,Zb,Zc,Zd];refine aw (rs:=[15]) kRf (by simp) (am.last none rfl rfl rfl (fun K hK=>?_));go_simp
     have mE:Mod (aI.setCell ⟨w.heap.size+1,0,none⟩ (.slice A3 (Z+1) c3)) w0 _:=zbk;simp only[Zb,Zc]at mE;have mE:=Mod.keep (T:=aE (w.heap.size+1) (.cells #[.slice A3 (Z+1) c3] 34 (0,0))*(ar 84 2 (.slice A3 (Z+1) c3) (Z+1) (da ro++[.string yk,.string yv])*(aE w.heap.size (.cells #[.int .u64 (s:Int)] 29 (0,0))*(S*X)))) mE;refine hK.out undef _ (fd kRf ?_);clear hK K;show Mod _ w0 (ex (fun q:Option Addr×Nat=>aE (w.heap.size+1) (.cells #[.slice q.1 _ q.2] 34 (0,0))*(ar 84 2 (.slice q.1 _ q.2) _ _*_))*X);have el:(ro++[(yk,yv)]).length=Z+1:=by rw[Ze,aj.out];rfl
     have er:da (ro++[(yk,yv)])=da ro++[.string yk,.string yv]:=by simp[da]
     rw[aa.out,el,er];refine Mod.shut (A3,c3) (m:=Mod.to (m:=mE) ?_);show aE (w.heap.size+1) (.cells #[.slice A3 (Z+1) c3] 34 (0,0))*_=_
     ac_rfl
 case done =>
  intro D xs W hS m2;rw[eI,ii]at m2;obtain⟨⟨A',c'⟩,m3⟩:=Mod.open (m:=Mod.to (m:=m2) rfl);have m4:Mod W w0 (aE (w.heap.size+1) (.cells #[.slice A' (jx s xs).length c'] 34 (0,0))*(aE D (.deferred (some []))*(ar 84 2 (.slice A' (jx s xs).length c') (jx s xs).length (da (jx s xs))*(aE w.heap.size (.cells #[.int .u64 (s:Int)] 29 (0,0))*S)))):=Mod.to (m:=m3) (by ac_rfl);rw[GW hS,az.out]at m4;clear m2 m3 hS m1 m;go_wp2
  gi_wp2
  have hK:(W.setCell ⟨w.heap.size+1,0,none⟩ (.slice A' out.length c')).heap[D]?=some (.deferred (some [])):=g5 (m:=(zbk:Mod (W.setCell ⟨w.heap.size+1,0,none⟩ (.slice A' out.length c')) w0 _)) zbk;refine⟨by simp,.inl ⟨_,_,rfl,run_takeDeferred hK,?_⟩⟩;have m5:Mod ((W.setCell ⟨w.heap.size+1,0,none⟩ (.slice A' out.length c')).putObj D (.deferred none)) w0 _:=Mod.putObj (m:=(zbk:Mod (W.setCell ⟨w.heap.size+1,0,none⟩ (.slice A' out.length c')) w0 _)) (t:=zbk) _;generalize (W.setCell ⟨w.heap.size+1,0,none⟩ (.slice A' out.length c')).putObj D (.deferred none)=W2 at *;have au:W2.cell? ⟨w.heap.size+1,0,none⟩=some (.slice A' out.length c'):=Za;refine⟨.tuple #[.slice A' out.length c',.int .i64 0],by simp[results,asAddr,loadVar,au,Tryz.f87],?_⟩;exact⟨A',c',rfl,Mod.keep m5⟩
 case stop =>
  intro D c' pre W _ m2;rw[eI,ii]at m2;exact(Mod.qD (m:=m2)).1.elim
end Go.Proofs.YtdfppjcaelghhaaGreatDoor
namespace Go.Sl
open Go
end Go.Sl
namespace Go.Proofs.YtdfppjcaelghhaaGreatDoor
open Go.RowKit Go.Sl Go.Shelf
attribute [local go_sem] ab bj bh bd Oper.semAt_some
theorem lj {V:Fence}{nn:Nat}{P:Program}{w w0:World}{F:ba}{M:Array Oper}{rest:List Oper}{o:Oper}{a:Act}{Q:Exit->Act->World->Prop}{s x:Operand}{t e size bytes:Nat} [T:yH P t e size bytes](af:o.guard=none)
 (ho:o.op=.call {callee:=.builtin .append,args:=#[s,x],argTypes:=#[t,t]}) {v:Value} {n:Nat} {xs:List Value} (m:Mod w w0 (ar e size v n xs*F)) (hs:a.eval s=v)
 {A:Addr} {k c:Nat} {news:List Value} (hx:a.eval x=.slice (some A) k c) (r:bk F (some A) (k*size) news) (hk:0<k) (E:∀u∈news,u.oneCell'=true) (Y:n+k<=maxLen) (y:(n+k)*bytes<=140737488355328)
 (h:∀A' c' U,Mod U w0 (ar e size (.slice A' (n+k) c') (n+k) (xs++news)*F)->wpListIn V nn P M Q rest (a.put o.dst (.slice A' (n+k) c')) U):wpListIn V nn P M Q (o::rest) a w:=by
 refine wpListIn_plain af fun K hK=>?_;obtain⟨i,z,hi,hz,B,aa,aj,h0⟩:=T.get;have rS:bk (ar e size v n xs*F) (some A) (k*size) news:=zbk;have I:=fp m rS;have ag:0<k*size:=zat hk h0;obtain⟨ad,Z,ah,hc⟩:=cP m rS ag;injection Z with Z;subst Z
 obtain⟨v',U,J,O,h3,h4,h5⟩:=run_append_own_at (P:=P) w 0 t o.type e i z size bytes T.ht hi hz B aa aj h0 v n xs (fW m) A k c news I
  (fun j u hu=>by rw[jl A j ah];exact hc j u hu) E Y y (Zv _)
 have ai:∃A' c',v'=.slice A' (n+k) c':=by
  rcases O.2 with⟨E,O⟩ | ⟨g,cap,ak,E,_⟩
  ·exact⟨none,0,by rw[E,O]⟩
  ·exact⟨_,_,E⟩
 obtain⟨A',c',rfl⟩:=ai;unfold Oper.wpIn;refine⟨?_,?_⟩
 ·simp[Oper.about,ho,resolve,Target.leads,Sem.run_pure]
 ·rw[Oper.semAt_plain V _ _ (by rw[ho];intro c ae;cases ae)]
  simp[execOp,ho,resolve,invoke,builtin,hs,hx,J,Result.andThen];exact hK _ _ (h A' c' U (m.rK O h3 h5))
end Go.Proofs.YtdfppjcaelghhaaGreatDoor
