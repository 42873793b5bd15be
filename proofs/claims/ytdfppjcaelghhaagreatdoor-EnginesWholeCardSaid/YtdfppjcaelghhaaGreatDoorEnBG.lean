/- Plain lemmas and contracts; the conditions are in each. -/
import Derived.BigRegion
import Derived.Test.YtdfppjcaelghhaaGreatDoorEnAG
set_option maxHeartbeats 16000000
set_option maxRecDepth 40000
namespace Go.Proofs.YtdfppjcaelghhaaGreatDoor
open Go.RowKit Go.Sl
attribute [local go_sem] ab bj bh bd
theorem Io {cs:Array Value}{p:Nat->Nat->Prop}(h:cs.size=8)(y:∀k,k<8->∃b,cs[k]?=some (ap b)/\p k b):∃z B E I J K M O:Nat,cs=#[ap z,ap B,ap E,ap I,ap J,ap K,ap M,ap O]:=by
 obtain⟨z,U,_⟩:=y 0 oMg;obtain⟨B,V,_⟩:=y 1 oMg;obtain⟨E,Y,_⟩:=y 2 oMg;obtain⟨I,Z,_⟩:=y 3 oMg;obtain⟨J,h4,_⟩:=y 4 oMg;obtain⟨K,h5,_⟩:=y 5 oMg;obtain⟨M,h6,_⟩:=y 6 oMg;obtain⟨O,h7,_⟩:=y 7 oMg;refine⟨z,B,E,I,J,K,M,O,?_⟩;obtain⟨l⟩:=cs
 match l,h with
 | [a,b,c,d,e,f,g,i],_ =>
   simp at U V Y Z h4 h5 h6 h7;rw[U,V,Y,Z,h4,h5,h6,h7]
theorem Fk:Tryz.prog.underlying 137=some (.array 8 117):=kRf
theorem KE:(Tryz.prog.info? 137).map (·.size)=some 8:=kRf
def ge (f:jA):ba:=⟨fun h=>h=fun k=>(f k).map fun c=>.cells c.cells.toArray 140 (0,0)⟩
theorem jh {f:jA}{a:Nat}{c:lJ}(h:f a=some c){j:Nat}{v:Value}(y:c.cells[j]?=some v):bw (ge f) a j v :=
 ⟨fun x z=>by
   rw[show x=_ from z]
   exact⟨c.cells.toArray,140,(0,0),by simp[h],by simpa using y⟩⟩
theorem kC {c:lJ}{k:Nat}(y:k<8):c.cells[4+k]?=some (kM (c.2 k)):=by
 have h:k=0\/k=1\/k=2\/k=3\/k=4\/k=5\/k=6\/k=7:=oMg
 rcases h with rfl | rfl | rfl | rfl | rfl | rfl | rfl | rfl <;> rfl
def ip (l:List ao):Nat:=(l.map fun x=>x.key.size+x.value.size).sum
def je (t hd n z:Nat):ba:=aE t (.cells #[ap hd,.int .i64 (n:Int),.int .i64 (z:Int)] 119 (0,0))
def im (t:Nat)(l:List ao):ba:=ex fun q:jA×Nat×List nt=>xX (IT q.1 q.2.1 q.2.2/\q.2.2.map (·.x)=l)*(ge q.1*je t q.2.1 l.length (ip l))
theorem tg {w w0:World}{t:Nat}{l:List ao}{F:ba}(m:Mod w w0 (im t l*F)):∃f hd T,IT f hd T/\T.map (·.x)=l/\Mod w w0 (ge f*(je t hd l.length (ip l)*F)):=by
 unfold im at m;obtain⟨⟨f,hd,T⟩,m⟩:=Mod.open (m:=m)
 have m:Mod w w0 (xX (IT f hd T/\T.map (·.x)=l)*(ge f*(je t hd l.length (ip l)*F))):=by
  rw[bo,bo]at m;exact m
 obtain⟨⟨y,z⟩,m⟩:=Mod.qD (m:=m);exact⟨f,hd,T,y,z,m⟩
theorem qK {w w0:World}{t:Nat}{l:List ao}{F:ba}{f:jA}{hd:Nat}{T:List nt}(h:IT f hd T)(e:T.map (·.x)=l)(m:Mod w w0 (ge f*(je t hd l.length (ip l)*F))):Mod w w0 (im t l*F):=by
 unfold im;refine Mod.shut (G:=fun q:jA×Nat×List nt=>xX (IT q.1 q.2.1 q.2.2/\q.2.2.map (·.x)=l)*(ge q.1*je t q.2.1 l.length (ip l))) (f,hd,T) (m:=?_);rw[bo,bo];exact Mod.AG ⟨h,e⟩ (m:=m)
theorem rV (t hd n z:Nat)(w w0:World)(S:ba)(m:Mod w w0 S)(h:jq S t (.cells #[ap hd,.int .i64 (n:Int),.int .i64 (z:Int)] 119 (0,0))):Calls Tryz.prog 80 #[ap t] w fun e y=>e=.returned (.bool true)/\Mod y w0 S:=by
 go_enter Tryz.func80,Tryz.ntmps80
 go_wp2_with fail
 go_ret
 exact⟨rfl,m⟩
theorem AX (w w0:World)(F:ba)(m:Mod w w0 F):Calls Tryz.prog 55 #[] w fun e B=>∃t,e=.returned (ap t)/\Mod B w0 (im t []*F):=by
 go_enter Tryz.func55,Tryz.ntmps55
 go_wp2_with fail
 go_ret
 have z:Mod ((w.alloc (.cells (lJ.cells (CG,fun _=>none)).toArray 140)).alloc (.cells #[ap w.heap.size,.int .i64 0,.int .i64 0] 119)) w0 _:=zbk;refine⟨w.heap.size+1,rfl,?_⟩
 have e:aE w.heap.size (.cells (lJ.cells (CG,fun _=>none)).toArray 140 (0,0))=ge (fun k=>if k=w.heap.size then some (CG,fun _=>none)else none):=by
  unfold ge aE
  congr 1
  funext h
  congr 1
  funext k
  unfold Hp.one;by_cases y:k=w.heap.size <;> simp[y]
 refine qK (f:=fun k=>if k=w.heap.size then some (CG,fun _=>none)else none) (hd:=w.heap.size) (T:=[]) ⟨⟨⟨fun _=>none,by simp⟩,by simp,by simp,by simp,List.Pairwise.nil⟩,fun k y=>⟨(CG,fun _=>none),by simp,rfl⟩⟩ rfl ?_;rw[<-e];exact Mod.to (m:=z) (cC _ _ _)
theorem rU (t hd n zz:Nat)(f:jA)(T:List nt)(tb:IT f hd T)(x:ao)(w w0:World)(F:ba)(m:Mod w w0 (ge f*(je t hd n zz*F))) :
 Calls Tryz.prog 81 #[ap t,.agg #[.string x.key,.int .u64 (x.seq:Int),.bool x.gone]] w fun e w'=>∃cs:Array Value,e=.returned (.agg cs)/\cs.size=8/\(∀k,k<8->∃a,cs[k]?=some (ap a)/\lk hd T x k a)/\Mod w' w0 (ge f*(je t hd n zz*F)):=by
 unfold je at m ⊢;have TB:=zbj tb;clear tb;have HX:Hid (∀(y:ao)(u:World)(S:ba)(mu:Mod u w0 S),Calls Tryz.prog 129 #[.agg #[.string y.key,.int .u64 (y.seq:Int),.bool y.gone],.agg #[.string x.key,.int .u64 (x.seq:Int),.bool x.gone]] u fun e w'=>e=.returned (.int .i64 (oh y x))/\Mod w' w0 S):=fun y u S mu=>nN y x u w0 S mu;go_enter Tryz.func81,Tryz.ntmps81
 go_wp2_with fail
 go_step3
 go_wp2_with fail
 go_step3
 go_wp2_with fail
 go_loopg [5,6] (8*(T.length+1)+T.length) (fun gk va vh wr=>∃(r a h:Nat)(R:List nt)(z:Int)(cs:Array Value),r<=8/\z+1=(r:Int)/\vh=.int .i64 z/\va=ap a/\Hid (yI hd T a h R x)/\r<=h/\gk=r*(T.length+1)+R.length/\cs.size=8/\Hid (∀k,r<=k->k<8->∃b,cs[k]?=some (ap b)/\lk hd T x k b)/\Mod wr w0 (aE (w.heap.size+1) (.cells cs 137 (0,0))*(aE w.heap.size (.cells #[.string x.key,.int .u64 (x.seq:Int),.bool x.gone] 69 (0,0))*(ge f*(aE t (.cells #[ap hd,.int .i64 (n:Int),.int .i64 (zz:Int)] 119 (0,0))*F)))))
 case atStart=>exact⟨8,hd,8,T,7,_,oMg,oMg,rfl,rfl,zbj (.head rfl rfl rfl),oMg,rfl,by first | rfl | simp,(fun k h1 O=>by omega),zbk⟩
 case round =>
  obtain⟨r,a,h,R,z,cs,hr,hz,rfl,rfl,HS,au,ag,J,E,m1⟩:=hrel
  cases r with
  | zero =>
    obtain rfl:z = -1:=oMg
    have aj:=zbj J;have ae:∀k,k<8->∃b,cs[k]?=some (ap b)/\lk hd T x k b:=fun k hk=>E.out k oMg hk;have aa:=zbj ae;clear ae;obtain⟨a0,a1,a2,a3,a4,a5,a6,a7,rfl⟩:=Io J aa.out;clear J E;go_wp2_with fail
    have m2:=(zbk:Mod ((((((((wr.setCell ⟨w.heap.size+1,0,none⟩ (ap a0)).setCell ⟨w.heap.size+1,1,none⟩ (ap a1)).setCell ⟨w.heap.size+1,2,none⟩ (ap a2)).setCell ⟨w.heap.size+1,3,none⟩ (ap a3)).setCell ⟨w.heap.size+1,4,none⟩ (ap a4)).setCell ⟨w.heap.size+1,5,none⟩ (ap a5)).setCell ⟨w.heap.size+1,6,none⟩ (ap a6)).setCell ⟨w.heap.size+1,7,none⟩ (ap a7)) w0 _);simp only[Zb,Zc,Zd,b9]at m2
    (try rw[Exit.noGoto_ret])
    refine bodyPost_ret (results_cell_row rfl _ _ (w.heap.size+1) 137 #[ap a0,ap a1,ap a2,ap a3,ap a4,ap a5,ap a6,ap a7] (0,0) _ rfl (Mod.heap (m:=m2)) Fk rfl (by rw[KE];rfl)) rfl ?_;exact⟨_,rfl,rfl,aa.out,Mod.keep m2⟩
  | succ q =>
    obtain rfl:z=(q:Int):=oMg
    clear hz;obtain⟨c,hc⟩:=HS.out.isSome TB.out.toTabBase;have HL:=zbj (HS.out.links TB.out (show q<h by omega) oMg);have ak:(q:Int)<8:=oMg
    have cA:bw (ge f) a (4+q) (kM (c.2 q)):=jh hc (kC oMg);have Hc:=zbj hc;clear hc
    cases V:p5 q R with
    | nil =>
      have af:c.2 q=none:=by
       have h1:=HL.out;rw[V]at h1;obtain⟨c',O,h3⟩:=h1;rw[Hc.out]at O;injection O with O;rw[O];exact h3
      rw[af]at cA;have cA:bw (ge f) a (4+q) (.pointer none):=cA
      have I:Hid (lk hd T x q a):=⟨h,R,HS.out,oMg,fun u hu hk=>by
       exfalso;have:u.ad∈p5 q R:=ZC (ZB.2 ⟨hu,by simpa using hk⟩)
       rw[V]at this;cases this⟩
      clear V af;obtain⟨ov,ai⟩:∃ov,cs[q]?=some ov:=⟨_,Yk oMg⟩;go_wp2_with fail
      go_quiet (fail)
      go_wp2_with fail
      go_roundg (q*(T.length+1)+R.length)
      case measure=>rw[XT]at ag;omega
      case rel =>
       have m2:Mod ((wr.drewN nq).setCell ⟨w.heap.size+1,q,none⟩ (ap a)) w0 _:=zbk;rw[b9]at m2
       exact⟨q,a,h,R,(q:Int)-1,cs.setIfInBounds q (ap a),oMg,oMg,rfl,rfl,HS,oMg,rfl,by simp[J],(fun k h1 O=>by
        rw[Yn];by_cases e:q=k
        ·subst e;exact⟨a,by simp[J];omega,I.out⟩
        ·rw[if_neg e];exact E.out k oMg O),m2⟩
    | cons b l =>
      obtain⟨P,tw,R',e1,e2,e3,e4,e5,e6,e7⟩:=HS.out.right TB.out V
      have Z:c.2 q=some b:=by
       have h1:=HL.out;rw[V]at h1;obtain⟨⟨c',O,h3⟩,_⟩:=h1;rw[Hc.out]at O;injection O with O;rw[O];exact h3
      rw[Z]at cA;have cA:bw (ge f) a (4+q) (.pointer (some ⟨b,0,none⟩)):=cA;obtain⟨nn,hb⟩:=TB.out.ent tw e4;rw[e2]at hb;have b0:bw (ge f) b 0 (.string tw.x.key):=jh hb rfl;have b1:bw (ge f) b 1 (.int .u64 (tw.x.seq:Int)):=jh hb rfl;have b2:bw (ge f) b 2 (.bool tw.x.gone):=jh hb rfl;have E6:=zbj e6;have I:=zbj (fun hn:¬kF tw.x x=>(⟨h,R,HS.out,oMg,e7 hn⟩:lk hd T x q a));have HC:=zbj (qW tw.x x);have HT:=zbj e3;have E5:=zbj e5;clear V Z e1 e2 e3 e4 e5 e6 e7 hb;generalize tw.x=y at *;by_cases U:kF y x
      ·have ah:oh y x<0:=HC.out.2 U
       have HY:=zbj (fun u S mu=>HX.out y u S mu);have Hs:=zbj (E6.out U);clear I E6 HC U;generalize oh y x=cy at *;go_wp2_with fail
       obtain⟨K,B,M⟩:∃K,K=_/\Mod wr w0 K:=⟨_,rfl,m1⟩;have b0:bw K b 0 (.string y.key):=by rw[B];infer_instance
       have b1:bw K b 1 (.int .u64 (y.seq:Int)):=by rw[B];infer_instance
       have b2:bw K b 2 (.bool y.gone):=by rw[B];infer_instance
       have hx:jq K w.heap.size (.cells #[.string x.key,.int .u64 (x.seq:Int),.bool x.gone] 69 (0,0)):=by rw[B];infer_instance
       have Y:=zbj B;clear B;have:=jO.some M;clear m1;refine dy M kRf kRf ?_
       repeat (go_big_quiet_step ((go_at_call 129;refine cW (HY.out _ _ ?_);exact zbk)))
       refine wpQuiet_nil ?_;rintro w3 ⟨s,rfl⟩;have m3:=Mod.to (m:=s.mod) Y.out;clear M hx Y this b0 b1 b2;generalize s.world=w3 at *;go_wp2_with fail
       go_roundg ((q+1)*(T.length+1)+R'.length)
       case measure=>have:=E5.out;omega
       case rel=>exact⟨q+1,b,tw.h,R',(q:Int),cs,hr,oMg,rfl,rfl,Hs,HT.out,rfl,J,E,m3⟩
      ·have ah:¬oh y x<0:=fun h=>U (HC.out.1 h)
       have HY:=zbj (fun u S mu=>HX.out y u S mu);have Hs:=zbj (I.out U);clear I E6 HC U;obtain⟨ov,ai⟩:∃ov,cs[q]?=some ov:=⟨_,Yk oMg⟩;generalize oh y x=cy at *;go_wp2_with fail
       obtain⟨K,B,M⟩:∃K,K=_/\Mod wr w0 K:=⟨_,rfl,m1⟩;have b0:bw K b 0 (.string y.key):=by rw[B];infer_instance
       have b1:bw K b 1 (.int .u64 (y.seq:Int)):=by rw[B];infer_instance
       have b2:bw K b 2 (.bool y.gone):=by rw[B];infer_instance
       have hx:jq K w.heap.size (.cells #[.string x.key,.int .u64 (x.seq:Int),.bool x.gone] 69 (0,0)):=by rw[B];infer_instance
       have Y:=zbj B;clear B;have:=jO.some M;clear m1;refine dy M kRf kRf ?_
       repeat (go_big_quiet_step ((go_at_call 129;refine cW (HY.out _ _ ?_);exact zbk)))
       refine wpQuiet_nil ?_;rintro w3 ⟨s,rfl⟩;have m3:=Mod.to (m:=s.mod) Y.out;clear M hx Y this b0 b1 b2;generalize s.world=w3 at *;go_wp2_with fail
       go_roundg (q*(T.length+1)+R.length)
       case measure=>rw[XT]at ag;omega
       case rel =>
        have m2:Mod (w3.setCell ⟨w.heap.size+1,q,none⟩ (ap a)) w0 _:=zbk;rw[b9]at m2
        exact⟨q,a,h,R,(q:Int)-1,cs.setIfInBounds q (ap a),oMg,oMg,rfl,rfl,HS,oMg,rfl,by simp[J],(fun k h1 O=>by
         rw[Yn];by_cases e:q=k
         ·subst e;exact⟨a,by simp[J];omega,Hs.out⟩
         ·rw[if_neg e];exact E.out k oMg O),m2⟩
theorem Dq (t:Nat)(l:List ao)(w w0:World)(F:ba)(m:Mod w w0 (im t l*F)):Calls Tryz.prog 30 #[ap t] w fun e I=>e=.returned (.int .i64 (ip l:Int))/\Mod I w0 (im t l*F):=by
 obtain⟨f,hd,T,y,B,E⟩:=tg m;have M:=zbj m;clear m y B;unfold je at E;generalize ip l=z at *;generalize l.length=n at *;go_enter Tryz.func30,Tryz.ntmps30
 go_wp2_with fail
 go_ret
 exact⟨rfl,M.out⟩
theorem Ib (t:Nat)(l:List ao)(w w0:World)(F:ba)(m:Mod w w0 (im t l*F)):Calls Tryz.prog 31 #[ap t] w fun e I=>e=.returned (.int .i64 (l.length:Int))/\Mod I w0 (im t l*F):=by
 obtain⟨f,hd,T,y,B,E⟩:=tg m;have M:=zbj m;clear m y B;unfold je at E;generalize ip l=z at *;generalize l.length=n at *;go_enter Tryz.func31,Tryz.ntmps31
 go_wp2_with fail
 go_ret
 exact⟨rfl,M.out⟩
end Go.Proofs.YtdfppjcaelghhaaGreatDoor
namespace Go.Sl
open Go
theorem En {T:List nt}(h:∀t∈T,1<=t.h/\t.h<=8):p5 0 T=T.map (·.ad):=by
 unfold p5;rw[ZR.2 fun t ht=>decide_eq_true (show 0<t.h from (h t ht).1)]
def qs (x:ao)(l:List ao):List ao:=l.filter fun y => !decide (kF y x)
def sN (x:ao)(T:List nt):List nt:=T.filter fun u => !decide (kF u.x x)
theorem MU (x:ao)(T:List nt):(sN x T).map (·.x)=qs x (T.map (·.x)):=by
 unfold sN qs;simp[zav,Function.comp_def]
theorem lk.zero {f:jA}{hd:Nat}{T:List nt}{x:ao}{a:Nat}(h:lk hd T x 0 a)(K:IT f hd T):∃c,f a=some c/\c.2 0=((sN x T).map (·.ad)).head?:=by
 obtain⟨hh,R,s,hk,Y⟩:=h.ex
 have z:∀t∈R,1<=t.h/\t.h<=8:=fun t ht=>K.fR t (by
  cases s with
  | head _ _ e=>rw[<-e];exact ht
  | tow P u e _ _ _=>rw[e];simp[ht])
 have B:=s.links K (k:=0) oMg oMg;rw[En z]at B
 have J:R=sN x T:=by
  unfold sN
  have y:R.filter (fun u => !decide (kF u.x x))=R:=ZR.2 fun u U=>by
   have:=Y u U (by have:=(z u U).1;omega);simpa using this
  cases s with
  | head _ _ e=>rw[<-e];exact y.symm
  | tow P u e _ _ hlt =>
    have O:=K.rise;rw[e,ZP,Zy]at O
    have V:P.filter (fun u => !decide (kF u.x x))=[]:=by
     rw[Yr];intro v Z;have:=(Yf.1 O).2.2 v.x (ZC Z) u.x (Zj ..);simpa using k7 this hlt
    rw[e,Yp,V,ZQ (by simpa using hlt),y,List.nil_append]
 rw[<-J]
 cases M:R.map (·.ad)with
 | nil=>rw[M]at B;obtain⟨c,E,I⟩:=B;exact⟨c,E,I⟩
 | cons b l=>rw[M]at B;obtain⟨⟨c,E,I⟩,_⟩:=B;exact⟨c,E,I⟩
theorem Ju {f:jA}{hd:Nat}{T:List nt}(E:IT f hd T){P R:List nt}{t:nt}(e:T=P++t::R):∃c,f t.ad=some c/\c.1=t.x/\c.2 0=(R.map (·.ad)).head?:=by
 have J:=E.links 0 oMg;have ht:=E.fR t (by rw[e];simp);have z:∀u∈R,1<=u.h/\u.h<=8:=fun u M=>E.fR u (by rw[e];simp[M]);rw[e,lr,sQ _ _ _ oMg]at J;have B:=wN _ J;rw[En z]at B;obtain⟨n,hn⟩:=E.ent t (by rw[e];simp)
 cases K:R.map (·.ad)with
 | nil =>
   rw[K]at B;obtain⟨c,y,I⟩:=B;rw[hn]at y;injection y with y;exact⟨c,by rw[hn,y],by rw[<-y],I⟩
 | cons b l =>
   rw[K]at B;obtain⟨⟨c,y,I⟩,_⟩:=B;rw[hn]at y;injection y with y;exact⟨c,by rw[hn,y],by rw[<-y],I⟩
end Go.Sl
namespace Go.Proofs.YtdfppjcaelghhaaGreatDoor
open Go.RowKit Go.Sl
attribute [local go_sem] ab bj bh bd
theorem Gr (y z B E I J K M:Value)(w:World):(Instr.index 137 (.agg #[y,z,B,E,I,J,K,M]) (.int .i64 0)).run Tryz.prog w=.ok y w:=by
 simp[Instr.index,run_underlying Fk,asIntOf,Tryz.sizeOf117,part,isAgg,run_underlying Tryz.underlying117]
attribute [local go_sem] Gr
instance Ox:yH Tryz.prog 59 71 4 48:=⟨Tryz.underlying59,by kernel_rfl⟩
theorem Fe (t hd n z:Nat)(f:jA)(T:List nt)(tb:IT f hd T)(x:ao)(w w0:World)(F:ba)(m:Mod w w0 (ge f*(je t hd n z*F))) :
 Calls Tryz.prog 116 #[ap t,.agg #[.string x.key,.int .u64 (x.seq:Int),.bool x.gone]] w fun e E=>e=.returned (kM ((sN x T).map (·.ad)).head?)/\Mod E w0 (ge f*(je t hd n z*F)):=by
 have HT:Hid (∀(u:World)(S:ba)(I:Mod u w0 S)(h:jq S t (.cells #[ap hd,.int .i64 (n:Int),.int .i64 (z:Int)] 119 (0,0))),Calls Tryz.prog 80 #[ap t] u fun e E=>e=.returned (.bool true)/\Mod E w0 S):=fun u S I h=>rV t hd n z u w0 S I h
 have HA:Hid (∀(u:World)(G:ba)(I:Mod u w0 (ge f*(je t hd n z*G))),Calls Tryz.prog 81 #[ap t,.agg #[.string x.key,.int .u64 (x.seq:Int),.bool x.gone]] u fun e E=>∃B J K M O U V Y:Nat,e=.returned (.agg #[ap B,ap J,ap K,ap M,ap O,ap U,ap V,ap Y])/\lk hd T x 0 B/\Mod E w0 (ge f*(je t hd n z*G))):=fun u G I=>(rU t hd n z f T tb x u w0 G I).mono fun e E ⟨cs,h1,h2,h3,h4⟩=>by
  obtain⟨B,J,K,M,O,U,V,Y,rfl⟩:=Io h2 h3;obtain⟨b,hb,Z⟩:=h3 0 oMg;have:b=B:=by simp at hb;exact hb.symm
  subst this;exact⟨b,J,K,M,O,U,V,Y,h1,Z,h4⟩
 unfold je at m HA ⊢;have TB:=zbj tb;clear tb;go_enter Tryz.func116,Tryz.ntmps116
 go_wp2_with first
  | (go_at_call 81;refine(HA.out _ (aE w.heap.size (.cells #[.string x.key,.int .u64 (x.seq:Int),.bool x.gone] 69 (0,0))*F) (Mod.to (m:=m1) (by ac_rfl))).mono ?_;rintro e w2 ⟨B,J,K,M,O,U,V,Y,rfl,Z,m2⟩;obtain⟨c,hc,y⟩:=Z.zero TB.out;have cA:bw (ge f) B 4 (kM (c.2 0)):=jh hc (kC (k:=0) oMg);rw[y]at cA;have aa:=zbj y;clear y Z hc)
  | (go_at_call 80;refine(HT.out _ _ (Mod.alloc (m:=m) _) zbk).mono ?_;rintro e w1 ⟨rfl,m1⟩)
 go_ret
 exact⟨by rw[List.head?_map];rfl,Mod.keep m2⟩
theorem x8 (t:Nat)(l:List ao)(x:ao)(most:Nat)(hm:most<=100000000)(w w0:World)(F:ba)(m:Mod w w0 (im t l*F)) :
 Calls Tryz.prog 68 #[ap t,.agg #[.string x.key,.int .u64 (x.seq:Int),.bool x.gone],.int .i64 (most:Int)] w fun e w'=>∃B c,e=.returned (.slice B ((qs x l).take most).length c)/\Mod w' w0 (ar 71 4 (.slice B ((qs x l).take most).length c) ((qs x l).take most).length (((qs x l).take most).flatMap ao.cells)*(im t l*F)):=by
 obtain⟨Z,hZ⟩:∃Z,(qs x l).take most=Z:=⟨_,rfl⟩;have HZ:=zbj hZ;rw[hZ];clear hZ;obtain⟨nZ,O⟩:∃nZ,Z.length=nZ:=⟨_,rfl⟩;have I:=zbj O;rw[O];clear O;obtain⟨f,hd,T,h1,h2,m1⟩:=tg m;subst h2;have TB:=zbj h1;have HA:=zbj (fun(u:World)(G:ba)(mu:Mod u w0 (ge f*(je t hd (T.map (·.x)).length (ip (T.map (·.x)))*G)))=>Fe t hd _ _ f T h1 x u w0 G mu);have HE:Hid (∀(u:World)(G:ba),Mod u w0 (ge f*(je t hd (T.map (·.x)).length (ip (T.map (·.x)))*G))->Mod u w0 (im t (T.map (·.x))*G)):=fun u G mu=>qK h1 rfl mu;unfold je at m1 HA HE;clear m;generalize ip (T.map (·.x))=zz at *;generalize (T.map (·.x)).length=nn at *;obtain⟨N,hN⟩:∃N,sN x T=N:=⟨_,rfl⟩;have Y:Hid (qs x (T.map (·.x))=N.map (·.x)):=by show _=_;rw[<-hN,MU]
 have HN:Hid (∃P,T=P++N):=by
  show ∃P,_;refine⟨T.filter fun u=>decide (kF u.x x),?_⟩;rw[<-hN];exact lB h1.rise
 rw[hN]at HA;clear h1 hN;go_enter Tryz.func68,Tryz.ntmps68
 go_wp2_with (go_at_call 116;refine(HA.out _ (aE w.heap.size (.cells #[.string x.key,.int .u64 (x.seq:Int),.bool x.gone] 69 (0,0))*F) (Mod.to (m:=(Mod.alloc (m:=m1) _)) (by ac_rfl))).mono ?_;rintro e w2 ⟨rfl,m2⟩)
 go_loopg [6,7] N.length (fun gk vl vn wr=>∃(P R:List nt)(J:Option Addr)(K:Nat),gk=R.length/\Hid (N=P++R)/\P.length<=most/\vl=.slice J P.length K/\vn=kM (R.map (·.ad)).head?/\Mod wr w0 (ar 71 4 (.slice J P.length K) P.length ((P.map (·.x)).flatMap ao.cells)*(ge f*(aE t (.cells #[ap hd,.int .i64 (nn:Int),.int .i64 (zz:Int)] 119 (0,0))*F))))
 case atStart=>exact⟨[],N,none,0,rfl,rfl,Zv _,rfl,by rw[List.head?_map],ey (Mod.keep m2)⟩
 case round =>
  obtain⟨P,R,J,K,af,E,hP,rfl,V,m3⟩:=hrel
  cases R with
  | nil =>
    simp only[Ye,List.head?_nil,kM]at V;subst V
    have y:Hid (Z=P.map (·.x)):=by
     show _=_;rw[<-HZ.out,Y.out,E.out,ZH,Zn (by rw[ZW];exact hP)]
    go_wp2_with fail
    go_ret
    refine⟨J,K,by rw[<-I.out,y.out,ZW];rfl,?_⟩;rw[<-I.out,y.out,ZW];have m4:=HE.out _ _ (Mod.to (m:=m3) (show _=ge f*(aE t (.cells #[ap hd,.int .i64 (nn:Int),.int .i64 (zz:Int)] 119 (0,0))*(ar 71 4 (.slice J P.length K) P.length ((P.map (·.x)).flatMap ao.cells)*F)) by ac_rfl));exact Mod.to (m:=m4) (cC _ _ _)
  | cons u R =>
    simp only[Zy,List.head?_cons,kM]at V;subst V;by_cases ah:P.length<most
    ·have ag:(P.length:Int)<(most:Int):=oMg
     obtain⟨P0,aa⟩:=HN.out;obtain⟨c,U,z,ae⟩:=Ju TB.out (P:=P0++P) (R:=R) (t:=u) (by rw[aa,E.out];simp);have a0:bw (ge f) u.ad 0 (.string u.x.key):=jh U (by rw[<-z];rfl);have a1:bw (ge f) u.ad 1 (.int .u64 (u.x.seq:Int)):=jh U (by rw[<-z];rfl);have a2:bw (ge f) u.ad 2 (.bool u.x.gone):=jh U (by rw[<-z];rfl);have a3:bw (ge f) u.ad 3 (.string u.x.value):=jh U (by rw[<-z];rfl);have a4:bw (ge f) u.ad 4 (kM (c.2 0)):=jh U (kC (k:=0) oMg);rw[ae]at a4;have M:Hid (N=(P++[u])++R):=by show _=_;rw[E.out];simp
     clear aa U z ae;go_wp2_with (at_builtin;refine mf (w0:=w0) ?_;intro mw;have mx:=Mod.pull (m:=mw) (ar 71 4 (.slice J P.length K) P.length ((P.map (·.x)).flatMap ao.cells));refine i9 (t:=59) (k:=1) (c:=1) (A:=⟨wr.heap.size,0,none⟩) (news:=u.x.cells) rfl rfl mx rfl rfl (ce rfl rfl) (by decide) (fun v V=>pk [u.x] v (by simpa using V)) (by unfold maxLen;omega) oMg ?_;clear mw mx;intro A2 c2 w4 m4)
     go_roundg R.length
     case measure=>simp only[List.length_cons]at af;omega
     case rel=>exact⟨P++[u],R,A2,c2,rfl,M,by simp;omega,by simp,by rw[List.head?_map],by
      have e:((P++[u]).map (·.x)).flatMap ao.cells=(P.map (·.x)).flatMap ao.cells++u.x.cells:=by simp
      rw[e,Ze,List.length_singleton]
      exact Mod.keep m4⟩
    ·have ag:¬(P.length:Int)<(most:Int):=oMg
     have y:Hid (Z=P.map (·.x)):=by
      show _=_;rw[<-HZ.out,Y.out,E.out,ZP,zar (by rw[ZW];omega),Zn (by rw[ZW];exact hP)]
     go_wp2_with fail
     go_ret
     refine⟨J,K,by rw[<-I.out,y.out,ZW];rfl,?_⟩;rw[<-I.out,y.out,ZW];have m4:=HE.out _ _ (Mod.to (m:=m3) (show _=ge f*(aE t (.cells #[ap hd,.int .i64 (nn:Int),.int .i64 (zz:Int)] 119 (0,0))*(ar 71 4 (.slice J P.length K) P.length ((P.map (·.x)).flatMap ao.cells)*F)) by ac_rfl));exact Mod.to (m:=m4) (cC _ _ _)
def EU (a:ByteArray)(s:Int)(g:Bool)(y:ByteArray)(B:Int)(z:Bool):Bool:=a.toList==y.toList&&s==B&&g==z
theorem L1 (a:ByteArray)(s:Int)(g:Bool)(y:ByteArray)(B:Int)(z:Bool)(w:World):(binOp .eql 69 (.agg #[.string a,.int .u64 s,.bool g]) (.agg #[.string y,.int .u64 B,.bool z])).run Tryz.prog w=.ok (.bool (EU a s g y B z)) w:=by
 have M:∀w,(part 9 #[.string a,.int .u64 s,.bool g] 0).run Tryz.prog w=.ok (.string a) w:=fun w=>by simp[part,isAgg,run_underlying Tryz.underlying9]
 have O:∀w,(part 29 #[.string a,.int .u64 s,.bool g] 1).run Tryz.prog w=.ok (.int .u64 s) w:=fun w=>by simp[part,isAgg,run_underlying Tryz.underlying29]
 have U:∀w,(part 4 #[.string a,.int .u64 s,.bool g] 2).run Tryz.prog w=.ok (.bool g) w:=fun w=>by simp[part,isAgg,run_underlying Tryz.underlying4]
 have V:∀w,(part 9 #[.string y,.int .u64 B,.bool z] 0).run Tryz.prog w=.ok (.string y) w:=fun w=>by simp[part,isAgg,run_underlying Tryz.underlying9]
 have Y:∀w,(part 29 #[.string y,.int .u64 B,.bool z] 1).run Tryz.prog w=.ok (.int .u64 B) w:=fun w=>by simp[part,isAgg,run_underlying Tryz.underlying29]
 have Z:∀w,(part 4 #[.string y,.int .u64 B,.bool z] 2).run Tryz.prog w=.ok (.bool z) w:=fun w=>by simp[part,isAgg,run_underlying Tryz.underlying4]
 rw[run_eql_struct,show (10000:Nat)=9999+1 from rfl,run_equalIn_agg w 9999 69 _ _ kRf kRf];have I:∀w,(Op.equalIn 9999 9 (.string a) (.string y)).run Tryz.prog w=.ok (a.toList==y.toList) w:=fun w=>run_equalIn_string w 9998 9 a y Tryz.underlying9;have J:∀w,(Op.equalIn 9999 29 (.int .u64 s) (.int .u64 B)).run Tryz.prog w=.ok (s==B) w:=fun w=>run_equalIn_int w 9998 29 .u64 .u64 s B Tryz.underlying29;have K:∀w,(Op.equalIn 9999 4 (.bool g) (.bool z)).run Tryz.prog w=.ok (g==z) w:=fun w=>run_equalIn_bool' w 9998 4 g z Tryz.underlying4;unfold EU;generalize (a.toList==y.toList)=E at *;generalize (s==B)=b1 at *;generalize (g==z)=b2 at *;unfold Program.fieldsOf;rw[Tryz.underlying69];cases E <;> cases b1 <;> cases b2 <;> simp[Op.eqFields,M,O,U,V,Y,Z,I,J,K]
attribute [local go_sem 100000] L1
theorem Cu {x y:ao}(h:¬eW y x):EU y.key (y.seq:Int) y.gone x.key (x.seq:Int) x.gone=false:=by
 cases z:EU y.key (y.seq:Int) y.gone x.key (x.seq:Int) x.gone with
 | false=>rfl
 | true =>
   unfold EU at z;simp only[Yg,beq_iff_eq]at z;exact absurd ⟨uB z.1.1,oMg,z.2⟩ h
theorem pD (f:jA)(a:Nat)(c:lJ)(z:f a=none):aE a (.cells c.cells.toArray 140 (0,0))*ge f=ge (f.put a c):=by
 apply ba.ext';intro x;constructor
 ·rintro⟨p,q,I,rfl,hp,B⟩
  rw[show p=_ from hp,show q=_ from B];show _=_
  funext k
  unfold Hp.join Hp.one jA.put;by_cases y:k=a <;> simp[y]
 ·intro E
  rw[show x=_ from E];refine⟨_,_,?_,?_,rfl,rfl⟩
  ·intro k
   by_cases y:k=a
   ·right;subst y;show Option.map _ (f k)=none;rw[z];rfl
   ·left;unfold Hp.one;rw[if_neg y]
  ·funext k
   unfold Hp.join Hp.one jA.put;by_cases y:k=a <;> simp[y]
theorem tI {w w0:World}{n:Nat}{o:Obj}{A G:ba}{f:jA}(m:Mod w w0 (aE n o*(A*(ge f*G)))):f n=none:=by
 have m:Mod w w0 (aE n o*(ge f*(A*G))):=Mod.to (m:=m) (by ac_rfl);have h:=m.says;rw[bo,bo]at h;obtain⟨a,b,y,_,z,c,d,_,B,E,_⟩:=h;rcases y n with h | h
 ·rw[show a=_ from z]at h;simp[Hp.one]at h
 ·rw[B]at h
  unfold Hp.join at h;rw[show c=_ from E]at h;have h:=(Option.or_eq_none_iff.1 h).1;simpa using h
theorem fO {f:jA}{a:Nat}{c:lJ}(h:f a=some c):ge f=aE a (.cells c.cells.toArray 140 (0,0))*ge (fun k=>if k=a then none else f k):=by
 rw[pD _ a c (by simp)]
 congr 1
 funext k
 unfold jA.put;by_cases y:k=a
 ·simp[y,h]
 ·simp[y]
theorem KR {f:jA}{a:Nat}{c:lJ}:aE a (.cells c.cells.toArray 140 (0,0))*ge (fun k=>if k=a then none else f k)=ge (f.put a c):=by
 rw[pD _ a c (by simp)]
 congr 1
 funext k
 unfold jA.put;by_cases y:k=a <;> simp[y]
theorem yA {f:jA}{a n:Nat}(y B:lJ)(h:a≠n):aE a (.cells B.cells.toArray 140 (0,0))*(aE n (.cells y.cells.toArray 140 (0,0))*ge (fun k=>if k=a then none else if k=n then none else f k))=ge ((f.put n y).put a B):=by
 rw[pD _ n y (by simp[Ne.symm h]),<-KR (f:=f.put n y)]
 congr 2
 funext k
 unfold jA.put;by_cases E:k=a
 ·subst E;simp[h]
 ·simp[E]
  by_cases z:k=n <;> simp[z]
theorem tD (x:ao)(l:List ao):ip (oN x l)=ip l+(x.key.size+x.value.size):=by
 have h:=(nD x l).map fun x:ao=>x.key.size+x.value.size;unfold ip;rw[h.sum_nat,Zy,List.sum_cons];omega
theorem pV {c:lJ}{k:Nat}(y:k<8)(b:Option Nat):c.cells.toArray.setIfInBounds (4+k) (kM b)=(c.next k b).cells.toArray:=by
 obtain⟨⟨z,B,E,I⟩,n⟩:=c;have h:k=0\/k=1\/k=2\/k=3\/k=4\/k=5\/k=6\/k=7:=oMg
 rcases h with rfl | rfl | rfl | rfl | rfl | rfl | rfl | rfl <;> rfl
theorem KN (t:Nat)(l:List ao)(x:ao)(fR:Nat)(hx:fS x)(hg:x.gone=false)(aT:1<=fR)(aU:fR<=8)(hl:l.length<4096)(hs:∀y∈l,¬eW y x)(hz:ip l<=1000000000000)(w w0:World)(F:ba)(m:Mod w w0 (im t l*F)) :
 Calls Tryz.prog 35 #[ap t,.agg #[.string x.key,.int .u64 (x.seq:Int),.bool false,.string x.value],.int .i64 (fR:Int)] w fun e w'=>e=.returned (.int .i64 0)/\Mod w' w0 (im t (oN x l)*F):=by
 obtain⟨f,hd,T,h1,h2,m1⟩:=tg m;subst h2;have TB:=zbj h1;have HS:Hid (∀u∈T,¬eW u.x x):=fun u hu=>hs u.x (ZC hu);obtain⟨U,aM⟩:∃U,ip (T.map (·.x))=U:=⟨_,rfl⟩;obtain⟨K,aK⟩:∃K,(T.map (·.x)).length=K:=⟨_,rfl⟩;rw[aK]at hl m1;rw[aM]at m1 hz;have aQ:=zbj aM;have aP:=zbj aK;have HT:Hid (∀(u:World)(S:ba)(mu:Mod u w0 S)(h:jq S t (.cells #[ap hd,.int .i64 (K:Int),.int .i64 (U:Int)] 119 (0,0))),Calls Tryz.prog 80 #[ap t] u fun e w'=>e=.returned (.bool true)/\Mod w' w0 S):=fun u S mu h=>rV t hd K U u w0 S mu h
 have HA:Hid (∀(u:World)(G:ba)(mu:Mod u w0 (ge f*(je t hd K U*G))),Calls Tryz.prog 81 #[ap t,.agg #[.string x.key,.int .u64 (x.seq:Int),.bool false]] u fun e w'=>∃a0 a1 a2 a3 a4 a5 a6 a7:Nat,e=.returned (.agg #[ap a0,ap a1,ap a2,ap a3,ap a4,ap a5,ap a6,ap a7])/\Hid (∀k,k<8->∃a,(#[ap a0,ap a1,ap a2,ap a3,ap a4,ap a5,ap a6,ap a7]:Array Value)[k]?=some (ap a)/\lk hd T x k a)/\Mod w' w0 (ge f*(je t hd K U*G))):=fun u G mu=>by
  have h:=rU t hd K U f T h1 x u w0 G mu;rw[hg]at h;refine h.mono fun e w' ⟨cs,h1,h2,h3,h4⟩=>?_;obtain⟨a0,a1,a2,a3,a4,a5,a6,a7,rfl⟩:=Io h2 h3;exact⟨a0,a1,a2,a3,a4,a5,a6,a7,h1,zbj h3,h4⟩
 have HK:=zbj (fun(u:World)(S:ba)(mu:Mod u w0 S)=>fi x.key u w0 S mu);rw[hx.key]at HK;have hv:¬(256:Int)<(x.value.size:Int):=by have:=hx.value;omega
 have bq:=hx.size.2;have bz:=hx.value;have bg:¬(fR:Int)<1:=oMg
 have bn:¬8<(fR:Int):=oMg
 have bu:¬(4096:Int)<=(K:Int):=oMg
 have Hg:=zbj hg;have Hx:=zbj hx;clear h1 hs aM aK m hg hx;unfold je at m1 HA;go_enter Tryz.func35,Tryz.ntmps35
 have Y:=True.intro
 go_wp2_with first
  | (go_at_call 62;clear Y;refine(HK.out _ _ m2).mono ?_;rintro e w3 ⟨rfl,m3⟩;have Y:=True.intro)
  | (go_at_call 80;clear Y;refine(HT.out _ _ (Mod.alloc (m:=m1) _) zbk).mono ?_;rintro e w2 ⟨rfl,m2⟩;have Y:=True.intro)
  | (go_at_call 81;clear Y;refine(HA.out _ (aE w.heap.size (.cells #[.string x.key,.int .u64 (x.seq:Int),.bool false,.string x.value] 71 (0,0))*F) (Mod.to (m:=m3) (by ac_rfl))).mono ?_;rintro e z ⟨a0,a1,a2,a3,a4,a5,a6,a7,rfl,HL,m4⟩;refine Hid.out ?_)
 obtain⟨b0,aH,aO⟩:=HL.out 0 oMg;have e0:b0=a0:=by simp at aH;exact aH.symm
 subst e0;obtain⟨c0,aR,aS⟩:=aO.zero TB.out;have cA:bw (ge f) b0 4 (kM (c0.2 0)):=jh aR (kC (k:=0) oMg);rw[aS]at cA;clear aS aR aO aH
 cases hN:sN x T with
 | nil =>
   rw[hN]at cA;have cA:bw (ge f) b0 4 (.pointer none):=cA;clear hN;refine zbj ?_;go_wp2_with fail
   go_quiet (fail)
   go_wp2_with fail
   obtain⟨W5,aa⟩:∃W5,W5=((z.alloc (.cells #[ap b0,ap a1,ap a2,ap a3,ap a4,ap a5,ap a6,ap a7] 137)).drewN nq).alloc (.cells #[.string x.key,.int .u64 (x.seq:Int),.bool false,.string x.value,.pointer none,.pointer none,.pointer none,.pointer none,.pointer none,.pointer none,.pointer none,.pointer none] 140):=⟨_,rfl⟩;have m5:Mod (((z.alloc (.cells #[ap b0,ap a1,ap a2,ap a3,ap a4,ap a5,ap a6,ap a7] 137)).drewN nq).alloc (.cells #[.string x.key,.int .u64 (x.seq:Int),.bool false,.string x.value,.pointer none,.pointer none,.pointer none,.pointer none,.pointer none,.pointer none,.pointer none,.pointer none] 140)) w0 _:=zbk;rw[<-aa]at m5
   (try rw[<-aa])
   clear aa;have af:=tI m5;obtain⟨cs,ae⟩:∃cs:Array Value,cs=#[ap b0,ap a1,ap a2,ap a3,ap a4,ap a5,ap a6,ap a7]:=⟨_,rfl⟩;have aB:Hid (∀k,k<8->∃a,cs[k]?=some (ap a)/\lk hd T x k a):=by rw[ae];exact HL.out
   have ec:(#[.string x.key,.int .u64 (x.seq:Int),.bool false,.string x.value,.pointer none,.pointer none,.pointer none,.pointer none,.pointer none,.pointer none,.pointer none,.pointer none]:Array Value)=(lJ.cells (x,fun _=>none)).toArray:=by
    simp[lJ.cells,ao.cells,kM,Hg.out]
   rw[<-ae,ec]at m5;obtain⟨gn,aY⟩:∃gn,gn=z.heap.size+1:=⟨_,rfl⟩
   have m6:Mod W5 w0 (aE z.heap.size (.cells cs 137 (0,0))*(ge (f.put (z.heap.size+1) (x,fun _=>none))*(aE t (.cells #[ap hd,.int .i64 (K:Int),.int .i64 (U:Int)] 119 (0,0))*(aE w.heap.size (.cells #[.string x.key,.int .u64 (x.seq:Int),.bool false,.string x.value] 71 (0,0))*F)))):=by
    rw[<-pD _ _ _ af];exact Mod.to (m:=m5) (by ac_rfl)
   have aD:Hid (ir (f.put (z.heap.size+1) (x,fun _=>none)) hd T ⟨z.heap.size+1,x,fR⟩ 0):=ir.start TB.out (t:=⟨z.heap.size+1,x,fR⟩) af;clear m5 ec af HL ae;go_loopg [76] fR (fun gk vi wr=>∃(i:Nat)(Z:jA),i<=fR/\gk=fR-i/\vi=.int .i64 (i:Int)/\Hid (ir Z hd T ⟨z.heap.size+1,x,fR⟩ i)/\Mod wr w0 (aE z.heap.size (.cells cs 137 (0,0))*(ge Z*(aE t (.cells #[ap hd,.int .i64 (K:Int),.int .i64 (U:Int)] 119 (0,0))*(aE w.heap.size (.cells #[.string x.key,.int .u64 (x.seq:Int),.bool false,.string x.value] 71 (0,0))*F)))))
   case atStart=>exact⟨0,_,Zv _,rfl,rfl,aD,m6⟩
   case round =>
    obtain⟨i,Z,hi,aX,rfl,HP,m7⟩:=hrel;by_cases av:i<fR
    ·have au:(i:Int)<(fR:Int):=oMg
     have aZ:(i:Int)<8:=oMg
     obtain⟨a,aW,ag⟩:=aB.out i oMg
     have aL:∃c,Z a=some c:=by
      obtain⟨_,_,sp,_,_⟩:=ag.ex;exact sp.isSome HP.out.toTabBase
     obtain⟨V,ha⟩:=aL;obtain⟨J,I,_⟩:=HP.out.new;have I:Z (z.heap.size+1)=some (x,J):=I
     have ax:a≠z.heap.size+1:=by
      obtain⟨_,_,sp,_,_⟩:=ag.ex;intro e
      cases sp with
      | head e1 _ _=>exact HP.out.fresh (by rw[e1]at e;show z.heap.size+1∈_;rw[<-e];exact Zj ..)
      | tow P u e1 e2 _ _=>exact HP.out.fresh (by show z.heap.size+1∈_;rw[<-e,e2];exact Zh _ (ZC (by rw[e1];simp)))
     have aF:=zbj (HP.out.step (i:=i) (by show i<fR;exact av) oMg ag ha I);rw[fO I,fO (a:=a) (c:=V) (by simp[ax,ha])]at m7;obtain⟨M,B⟩:∃M,M=V.cells.toArray:=⟨_,rfl⟩;obtain⟨O,E⟩:∃O,O=(lJ.cells (x,J)).toArray:=⟨_,rfl⟩;have aI:M[4+i]?=some (kM (V.2 i)):=by rw[B];simpa using kC (c:=V) (show i<8 by omega)
     have aV:O[4+i]?=some (kM (J i)):=by rw[E];simpa using kC (c:=(x,J)) (show i<8 by omega)
     have m8:Mod wr w0 (aE a (.cells M 140 (0,0))*(aE (z.heap.size+1) (.cells O 140 (0,0))*(aE z.heap.size (.cells cs 137 (0,0))*(ge (fun k=>if k=a then none else if k=z.heap.size+1 then none else Z k)*(aE t (.cells #[ap hd,.int .i64 (K:Int),.int .i64 (U:Int)] 119 (0,0))*(aE w.heap.size (.cells #[.string x.key,.int .u64 (x.seq:Int),.bool false,.string x.value] 71 (0,0))*F)))))):=by
      rw[B,E];exact Mod.to (m:=m7) (by ac_rfl)
     have ai:=zbj B;have aj:=zbj E;obtain⟨po,ah⟩:∃po,kM (V.2 i)=.pointer po:=by cases V.2 i <;> exact⟨_,rfl⟩
     rw[ah]at aI;have aG:=zbj ah;clear m7 B E ah I ha;go_wp2_with fail
     go_region
     go_wp2_with fail
     go_roundg (fR-(i+1))
     case measure=>omega
     case rel =>
      have m9:Mod ((wr.setCell ⟨z.heap.size+1,4+i,none⟩ (.pointer po)).setCell ⟨a,4+i,none⟩ (.pointer (some ⟨z.heap.size+1,0,none⟩))) w0 _:=zbk;rw[ai.out,aj.out]at m9;refine⟨i+1,_,av,rfl,by go_num,aF,?_⟩;rw[<-yA _ _ ax];refine Mod.to (m:=Mod.drew (m:=m9)) ?_;rw[<-pV (c:=V) (k:=i) oMg (some (z.heap.size+1)),<-pV (c:=(x,J)) (k:=i) oMg (V.2 i),aG.out];simp only[b9,kM]
      ac_rfl
    ·have au:¬(i:Int)<(fR:Int):=oMg
     have aJ:i=fR:=oMg
     have ak:=zbj (ir.fin (t:=⟨z.heap.size+1,x,fR⟩) (by have:=HP.out;rw[aJ]at this;exact this) aT aU HS.out);go_wp2_with fail
     go_region
     go_wp2_with fail
     have ay:Mod ((wr.setCell ⟨t,1,none⟩ (.int .i64 ((K:Int)+1))).setCell ⟨t,2,none⟩ (.int .i64 ((U:Int)+((x.key.size:Int)+(x.value.size:Int))))).drew w0 _:=zbk;simp only[Zb,Zc,Zd,b9]at ay;go_ret
     refine⟨rfl,qK ak.out (zE _ _) ?_⟩;have e1:(oN x (T.map (·.x))).length=K+1:=by rw[(nD _ _).length_eq,List.length_cons,aP.out]
     have e2:ip (oN x (T.map (·.x)))=U+(x.key.size+x.value.size):=by rw[tD,aQ.out]
     rw[e1,e2];unfold je;simp only[Int.natCast_add,Int.natCast_one];have aN:=Mod.keep (T:=ge Z*(aE t (.cells #[ap hd,.int .i64 ((K:Int)+1),.int .i64 ((U:Int)+((x.key.size:Int)+(x.value.size:Int)))] 119 (0,0))*F)) ay;exact aN
 | cons u R =>
   rw[hN]at cA;have cA:bw (ge f) b0 4 (.pointer (some ⟨u.ad,0,none⟩)):=cA
   have hu:u∈T:=by
    have:u∈sN x T:=by rw[hN];exact Zj ..
    exact(ZB.1 this).1
   have bf:=Cu (HS.out u hu);rw[Hg.out]at bf;obtain⟨un,az⟩:=TB.out.ent u hu;have d0:bw (ge f) u.ad 0 (.string u.x.key):=jh az rfl;have d1:bw (ge f) u.ad 1 (.int .u64 (u.x.seq:Int)):=jh az rfl;have d2:bw (ge f) u.ad 2 (.bool u.x.gone):=jh az rfl;clear hN hu az;refine zbj ?_;go_wp2_with fail
   go_quiet (fail)
   go_wp2_with fail
   obtain⟨W5,aa⟩:∃W5,W5=((z.alloc (.cells #[ap b0,ap a1,ap a2,ap a3,ap a4,ap a5,ap a6,ap a7] 137)).drewN nq).alloc (.cells #[.string x.key,.int .u64 (x.seq:Int),.bool false,.string x.value,.pointer none,.pointer none,.pointer none,.pointer none,.pointer none,.pointer none,.pointer none,.pointer none] 140):=⟨_,rfl⟩;have m5:Mod (((z.alloc (.cells #[ap b0,ap a1,ap a2,ap a3,ap a4,ap a5,ap a6,ap a7] 137)).drewN nq).alloc (.cells #[.string x.key,.int .u64 (x.seq:Int),.bool false,.string x.value,.pointer none,.pointer none,.pointer none,.pointer none,.pointer none,.pointer none,.pointer none,.pointer none] 140)) w0 _:=zbk;rw[<-aa]at m5
   (try rw[<-aa])
   clear aa;have af:=tI m5;obtain⟨cs,ae⟩:∃cs:Array Value,cs=#[ap b0,ap a1,ap a2,ap a3,ap a4,ap a5,ap a6,ap a7]:=⟨_,rfl⟩;have aB:Hid (∀k,k<8->∃a,cs[k]?=some (ap a)/\lk hd T x k a):=by rw[ae];exact HL.out
   have ec:(#[.string x.key,.int .u64 (x.seq:Int),.bool false,.string x.value,.pointer none,.pointer none,.pointer none,.pointer none,.pointer none,.pointer none,.pointer none,.pointer none]:Array Value)=(lJ.cells (x,fun _=>none)).toArray:=by
    simp[lJ.cells,ao.cells,kM,Hg.out]
   rw[<-ae,ec]at m5;obtain⟨gn,aY⟩:∃gn,gn=z.heap.size+1:=⟨_,rfl⟩
   have m6:Mod W5 w0 (aE z.heap.size (.cells cs 137 (0,0))*(ge (f.put (z.heap.size+1) (x,fun _=>none))*(aE t (.cells #[ap hd,.int .i64 (K:Int),.int .i64 (U:Int)] 119 (0,0))*(aE w.heap.size (.cells #[.string x.key,.int .u64 (x.seq:Int),.bool false,.string x.value] 71 (0,0))*F)))):=by
    rw[<-pD _ _ _ af];exact Mod.to (m:=m5) (by ac_rfl)
   have aD:Hid (ir (f.put (z.heap.size+1) (x,fun _=>none)) hd T ⟨z.heap.size+1,x,fR⟩ 0):=ir.start TB.out (t:=⟨z.heap.size+1,x,fR⟩) af;clear m5 ec af HL ae;go_loopg [76] fR (fun gk vi wr=>∃(i:Nat)(Z:jA),i<=fR/\gk=fR-i/\vi=.int .i64 (i:Int)/\Hid (ir Z hd T ⟨z.heap.size+1,x,fR⟩ i)/\Mod wr w0 (aE z.heap.size (.cells cs 137 (0,0))*(ge Z*(aE t (.cells #[ap hd,.int .i64 (K:Int),.int .i64 (U:Int)] 119 (0,0))*(aE w.heap.size (.cells #[.string x.key,.int .u64 (x.seq:Int),.bool false,.string x.value] 71 (0,0))*F)))))
   case atStart=>exact⟨0,_,Zv _,rfl,rfl,aD,m6⟩
   case round =>
    obtain⟨i,Z,hi,aX,rfl,HP,m7⟩:=hrel;by_cases av:i<fR
    ·have au:(i:Int)<(fR:Int):=oMg
     have aZ:(i:Int)<8:=oMg
     obtain⟨a,aW,ag⟩:=aB.out i oMg
     have aL:∃c,Z a=some c:=by
      obtain⟨_,_,sp,_,_⟩:=ag.ex;exact sp.isSome HP.out.toTabBase
     obtain⟨V,ha⟩:=aL;obtain⟨J,I,_⟩:=HP.out.new;have I:Z (z.heap.size+1)=some (x,J):=I
     have ax:a≠z.heap.size+1:=by
      obtain⟨_,_,sp,_,_⟩:=ag.ex;intro e
      cases sp with
      | head e1 _ _=>exact HP.out.fresh (by rw[e1]at e;show z.heap.size+1∈_;rw[<-e];exact Zj ..)
      | tow P u e1 e2 _ _=>exact HP.out.fresh (by show z.heap.size+1∈_;rw[<-e,e2];exact Zh _ (ZC (by rw[e1];simp)))
     have aF:=zbj (HP.out.step (i:=i) (by show i<fR;exact av) oMg ag ha I);rw[fO I,fO (a:=a) (c:=V) (by simp[ax,ha])]at m7;obtain⟨M,B⟩:∃M,M=V.cells.toArray:=⟨_,rfl⟩;obtain⟨O,E⟩:∃O,O=(lJ.cells (x,J)).toArray:=⟨_,rfl⟩;have aI:M[4+i]?=some (kM (V.2 i)):=by rw[B];simpa using kC (c:=V) (show i<8 by omega)
     have aV:O[4+i]?=some (kM (J i)):=by rw[E];simpa using kC (c:=(x,J)) (show i<8 by omega)
     have m8:Mod wr w0 (aE a (.cells M 140 (0,0))*(aE (z.heap.size+1) (.cells O 140 (0,0))*(aE z.heap.size (.cells cs 137 (0,0))*(ge (fun k=>if k=a then none else if k=z.heap.size+1 then none else Z k)*(aE t (.cells #[ap hd,.int .i64 (K:Int),.int .i64 (U:Int)] 119 (0,0))*(aE w.heap.size (.cells #[.string x.key,.int .u64 (x.seq:Int),.bool false,.string x.value] 71 (0,0))*F)))))):=by
      rw[B,E];exact Mod.to (m:=m7) (by ac_rfl)
     have ai:=zbj B;have aj:=zbj E;obtain⟨po,ah⟩:∃po,kM (V.2 i)=.pointer po:=by cases V.2 i <;> exact⟨_,rfl⟩
     rw[ah]at aI;have aG:=zbj ah;clear m7 B E ah I ha;go_wp2_with fail
     go_region
     go_wp2_with fail
     go_roundg (fR-(i+1))
     case measure=>omega
     case rel =>
      have m9:Mod ((wr.setCell ⟨z.heap.size+1,4+i,none⟩ (.pointer po)).setCell ⟨a,4+i,none⟩ (.pointer (some ⟨z.heap.size+1,0,none⟩))) w0 _:=zbk;rw[ai.out,aj.out]at m9;refine⟨i+1,_,av,rfl,by go_num,aF,?_⟩;rw[<-yA _ _ ax];refine Mod.to (m:=Mod.drew (m:=m9)) ?_;rw[<-pV (c:=V) (k:=i) oMg (some (z.heap.size+1)),<-pV (c:=(x,J)) (k:=i) oMg (V.2 i),aG.out];simp only[b9,kM]
      ac_rfl
    ·have au:¬(i:Int)<(fR:Int):=oMg
     have aJ:i=fR:=oMg
     have ak:=zbj (ir.fin (t:=⟨z.heap.size+1,x,fR⟩) (by have:=HP.out;rw[aJ]at this;exact this) aT aU HS.out);go_wp2_with fail
     go_region
     go_wp2_with fail
     have ay:Mod ((wr.setCell ⟨t,1,none⟩ (.int .i64 ((K:Int)+1))).setCell ⟨t,2,none⟩ (.int .i64 ((U:Int)+((x.key.size:Int)+(x.value.size:Int))))).drew w0 _:=zbk;simp only[Zb,Zc,Zd,b9]at ay;go_ret
     refine⟨rfl,qK ak.out (zE _ _) ?_⟩;have e1:(oN x (T.map (·.x))).length=K+1:=by rw[(nD _ _).length_eq,List.length_cons,aP.out]
     have e2:ip (oN x (T.map (·.x)))=U+(x.key.size+x.value.size):=by rw[tD,aQ.out]
     rw[e1,e2];unfold je;simp only[Int.natCast_add,Int.natCast_one];have aN:=Mod.keep (T:=ge Z*(aE t (.cells #[ap hd,.int .i64 ((K:Int)+1),.int .i64 ((U:Int)+((x.key.size:Int)+(x.value.size:Int)))] 119 (0,0))*F)) ay;exact aN
theorem Ic (t:Nat)(l:List ao)(x:ao)(fR:Nat)(hx:fS x)(hg:x.gone=true)(bz:x.value.toList=[])(aT:1<=fR)(aU:fR<=8)(hl:l.length<4096)(hs:∀y∈l,¬eW y x)(hz:ip l<=1000000000000)(w w0:World)(F:ba)(m:Mod w w0 (im t l*F)) :
 Calls Tryz.prog 35 #[ap t,.agg #[.string x.key,.int .u64 (x.seq:Int),.bool true,.string x.value],.int .i64 (fR:Int)] w fun e w'=>e=.returned (.int .i64 0)/\Mod w' w0 (im t (oN x l)*F):=by
 obtain⟨f,hd,T,h1,h2,m1⟩:=tg m;subst h2;have TB:=zbj h1;have HS:Hid (∀u∈T,¬eW u.x x):=fun u hu=>hs u.x (ZC hu);obtain⟨U,aM⟩:∃U,ip (T.map (·.x))=U:=⟨_,rfl⟩;obtain⟨K,aK⟩:∃K,(T.map (·.x)).length=K:=⟨_,rfl⟩;rw[aK]at hl m1;rw[aM]at m1 hz;have aQ:=zbj aM;have aP:=zbj aK;have HT:Hid (∀(u:World)(S:ba)(mu:Mod u w0 S)(h:jq S t (.cells #[ap hd,.int .i64 (K:Int),.int .i64 (U:Int)] 119 (0,0))),Calls Tryz.prog 80 #[ap t] u fun e w'=>e=.returned (.bool true)/\Mod w' w0 S):=fun u S mu h=>rV t hd K U u w0 S mu h
 have HA:Hid (∀(u:World)(G:ba)(mu:Mod u w0 (ge f*(je t hd K U*G))),Calls Tryz.prog 81 #[ap t,.agg #[.string x.key,.int .u64 (x.seq:Int),.bool true]] u fun e w'=>∃a0 a1 a2 a3 a4 a5 a6 a7:Nat,e=.returned (.agg #[ap a0,ap a1,ap a2,ap a3,ap a4,ap a5,ap a6,ap a7])/\Hid (∀k,k<8->∃a,(#[ap a0,ap a1,ap a2,ap a3,ap a4,ap a5,ap a6,ap a7]:Array Value)[k]?=some (ap a)/\lk hd T x k a)/\Mod w' w0 (ge f*(je t hd K U*G))):=fun u G mu=>by
  have h:=rU t hd K U f T h1 x u w0 G mu;rw[hg]at h;refine h.mono fun e w' ⟨cs,h1,h2,h3,h4⟩=>?_;obtain⟨a0,a1,a2,a3,a4,a5,a6,a7,rfl⟩:=Io h2 h3;exact⟨a0,a1,a2,a3,a4,a5,a6,a7,h1,zbj h3,h4⟩
 have HK:=zbj (fun(u:World)(S:ba)(mu:Mod u w0 S)=>fi x.key u w0 S mu);rw[hx.key]at HK;have hv:¬(256:Int)<(x.value.size:Int):=by have:=hx.value;omega
 have bq:=hx.size.2;have bB:=hx.value;have bg:¬(fR:Int)<1:=oMg
 have bn:¬8<(fR:Int):=oMg
 have bu:¬(4096:Int)<=(K:Int):=oMg
 have Hg:=zbj hg;have Hx:=zbj hx;clear h1 hs aM aK m hg hx;unfold je at m1 HA;go_enter Tryz.func35,Tryz.ntmps35
 have Y:=True.intro
 go_wp2_with first
  | (go_at_call 62;clear Y;refine(HK.out _ _ m2).mono ?_;rintro e w3 ⟨rfl,m3⟩;have Y:=True.intro)
  | (go_at_call 80;clear Y;refine(HT.out _ _ (Mod.alloc (m:=m1) _) zbk).mono ?_;rintro e w2 ⟨rfl,m2⟩;have Y:=True.intro)
  | (go_at_call 81;clear Y;refine(HA.out _ (aE w.heap.size (.cells #[.string x.key,.int .u64 (x.seq:Int),.bool true,.string x.value] 71 (0,0))*F) (Mod.to (m:=m3) (by ac_rfl))).mono ?_;rintro e z ⟨a0,a1,a2,a3,a4,a5,a6,a7,rfl,HL,m4⟩;refine Hid.out ?_)
 obtain⟨b0,aH,aO⟩:=HL.out 0 oMg;have e0:b0=a0:=by simp at aH;exact aH.symm
 subst e0;obtain⟨c0,aR,aS⟩:=aO.zero TB.out;have cA:bw (ge f) b0 4 (kM (c0.2 0)):=jh aR (kC (k:=0) oMg);rw[aS]at cA;clear aS aR aO aH
 cases hN:sN x T with
 | nil =>
   rw[hN]at cA;have cA:bw (ge f) b0 4 (.pointer none):=cA;clear hN;refine zbj ?_;go_wp2_with fail
   go_quiet (fail)
   go_wp2_with fail
   obtain⟨W5,aa⟩:∃W5,W5=((z.alloc (.cells #[ap b0,ap a1,ap a2,ap a3,ap a4,ap a5,ap a6,ap a7] 137)).drewN nq).alloc (.cells #[.string x.key,.int .u64 (x.seq:Int),.bool true,.string x.value,.pointer none,.pointer none,.pointer none,.pointer none,.pointer none,.pointer none,.pointer none,.pointer none] 140):=⟨_,rfl⟩;have m5:Mod (((z.alloc (.cells #[ap b0,ap a1,ap a2,ap a3,ap a4,ap a5,ap a6,ap a7] 137)).drewN nq).alloc (.cells #[.string x.key,.int .u64 (x.seq:Int),.bool true,.string x.value,.pointer none,.pointer none,.pointer none,.pointer none,.pointer none,.pointer none,.pointer none,.pointer none] 140)) w0 _:=zbk;rw[<-aa]at m5
   (try rw[<-aa])
   clear aa;have af:=tI m5;obtain⟨cs,ae⟩:∃cs:Array Value,cs=#[ap b0,ap a1,ap a2,ap a3,ap a4,ap a5,ap a6,ap a7]:=⟨_,rfl⟩;have aB:Hid (∀k,k<8->∃a,cs[k]?=some (ap a)/\lk hd T x k a):=by rw[ae];exact HL.out
   have ec:(#[.string x.key,.int .u64 (x.seq:Int),.bool true,.string x.value,.pointer none,.pointer none,.pointer none,.pointer none,.pointer none,.pointer none,.pointer none,.pointer none]:Array Value)=(lJ.cells (x,fun _=>none)).toArray:=by
    simp[lJ.cells,ao.cells,kM,Hg.out]
   rw[<-ae,ec]at m5;obtain⟨gn,aY⟩:∃gn,gn=z.heap.size+1:=⟨_,rfl⟩
   have m6:Mod W5 w0 (aE z.heap.size (.cells cs 137 (0,0))*(ge (f.put (z.heap.size+1) (x,fun _=>none))*(aE t (.cells #[ap hd,.int .i64 (K:Int),.int .i64 (U:Int)] 119 (0,0))*(aE w.heap.size (.cells #[.string x.key,.int .u64 (x.seq:Int),.bool true,.string x.value] 71 (0,0))*F)))):=by
    rw[<-pD _ _ _ af];exact Mod.to (m:=m5) (by ac_rfl)
   have aD:Hid (ir (f.put (z.heap.size+1) (x,fun _=>none)) hd T ⟨z.heap.size+1,x,fR⟩ 0):=ir.start TB.out (t:=⟨z.heap.size+1,x,fR⟩) af;clear m5 ec af HL ae;go_loopg [76] fR (fun gk vi wr=>∃(i:Nat)(Z:jA),i<=fR/\gk=fR-i/\vi=.int .i64 (i:Int)/\Hid (ir Z hd T ⟨z.heap.size+1,x,fR⟩ i)/\Mod wr w0 (aE z.heap.size (.cells cs 137 (0,0))*(ge Z*(aE t (.cells #[ap hd,.int .i64 (K:Int),.int .i64 (U:Int)] 119 (0,0))*(aE w.heap.size (.cells #[.string x.key,.int .u64 (x.seq:Int),.bool true,.string x.value] 71 (0,0))*F)))))
   case atStart=>exact⟨0,_,Zv _,rfl,rfl,aD,m6⟩
   case round =>
    obtain⟨i,Z,hi,aX,rfl,HP,m7⟩:=hrel;by_cases av:i<fR
    ·have au:(i:Int)<(fR:Int):=oMg
     have aZ:(i:Int)<8:=oMg
     obtain⟨a,aW,ag⟩:=aB.out i oMg
     have aL:∃c,Z a=some c:=by
      obtain⟨_,_,sp,_,_⟩:=ag.ex;exact sp.isSome HP.out.toTabBase
     obtain⟨V,ha⟩:=aL;obtain⟨J,I,_⟩:=HP.out.new;have I:Z (z.heap.size+1)=some (x,J):=I
     have ax:a≠z.heap.size+1:=by
      obtain⟨_,_,sp,_,_⟩:=ag.ex;intro e
      cases sp with
      | head e1 _ _=>exact HP.out.fresh (by rw[e1]at e;show z.heap.size+1∈_;rw[<-e];exact Zj ..)
      | tow P u e1 e2 _ _=>exact HP.out.fresh (by show z.heap.size+1∈_;rw[<-e,e2];exact Zh _ (ZC (by rw[e1];simp)))
     have aF:=zbj (HP.out.step (i:=i) (by show i<fR;exact av) oMg ag ha I);rw[fO I,fO (a:=a) (c:=V) (by simp[ax,ha])]at m7;obtain⟨M,B⟩:∃M,M=V.cells.toArray:=⟨_,rfl⟩;obtain⟨O,E⟩:∃O,O=(lJ.cells (x,J)).toArray:=⟨_,rfl⟩;have aI:M[4+i]?=some (kM (V.2 i)):=by rw[B];simpa using kC (c:=V) (show i<8 by omega)
     have aV:O[4+i]?=some (kM (J i)):=by rw[E];simpa using kC (c:=(x,J)) (show i<8 by omega)
     have m8:Mod wr w0 (aE a (.cells M 140 (0,0))*(aE (z.heap.size+1) (.cells O 140 (0,0))*(aE z.heap.size (.cells cs 137 (0,0))*(ge (fun k=>if k=a then none else if k=z.heap.size+1 then none else Z k)*(aE t (.cells #[ap hd,.int .i64 (K:Int),.int .i64 (U:Int)] 119 (0,0))*(aE w.heap.size (.cells #[.string x.key,.int .u64 (x.seq:Int),.bool true,.string x.value] 71 (0,0))*F)))))):=by
      rw[B,E];exact Mod.to (m:=m7) (by ac_rfl)
     have ai:=zbj B;have aj:=zbj E;obtain⟨po,ah⟩:∃po,kM (V.2 i)=.pointer po:=by cases V.2 i <;> exact⟨_,rfl⟩
     rw[ah]at aI;have aG:=zbj ah;clear m7 B E ah I ha;go_wp2_with fail
     go_region
     go_wp2_with fail
     go_roundg (fR-(i+1))
     case measure=>omega
     case rel =>
      have m9:Mod ((wr.setCell ⟨z.heap.size+1,4+i,none⟩ (.pointer po)).setCell ⟨a,4+i,none⟩ (.pointer (some ⟨z.heap.size+1,0,none⟩))) w0 _:=zbk;rw[ai.out,aj.out]at m9;refine⟨i+1,_,av,rfl,by go_num,aF,?_⟩;rw[<-yA _ _ ax];refine Mod.to (m:=Mod.drew (m:=m9)) ?_;rw[<-pV (c:=V) (k:=i) oMg (some (z.heap.size+1)),<-pV (c:=(x,J)) (k:=i) oMg (V.2 i),aG.out];simp only[b9,kM]
      ac_rfl
    ·have au:¬(i:Int)<(fR:Int):=oMg
     have aJ:i=fR:=oMg
     have ak:=zbj (ir.fin (t:=⟨z.heap.size+1,x,fR⟩) (by have:=HP.out;rw[aJ]at this;exact this) aT aU HS.out);go_wp2_with fail
     go_region
     go_wp2_with fail
     have ay:Mod ((wr.setCell ⟨t,1,none⟩ (.int .i64 ((K:Int)+1))).setCell ⟨t,2,none⟩ (.int .i64 ((U:Int)+((x.key.size:Int)+(x.value.size:Int))))).drew w0 _:=zbk;simp only[Zb,Zc,Zd,b9]at ay;go_ret
     refine⟨rfl,qK ak.out (zE _ _) ?_⟩;have e1:(oN x (T.map (·.x))).length=K+1:=by rw[(nD _ _).length_eq,List.length_cons,aP.out]
     have e2:ip (oN x (T.map (·.x)))=U+(x.key.size+x.value.size):=by rw[tD,aQ.out]
     rw[e1,e2];unfold je;simp only[Int.natCast_add,Int.natCast_one];have aN:=Mod.keep (T:=ge Z*(aE t (.cells #[ap hd,.int .i64 ((K:Int)+1),.int .i64 ((U:Int)+((x.key.size:Int)+(x.value.size:Int)))] 119 (0,0))*F)) ay;exact aN
 | cons u R =>
   rw[hN]at cA;have cA:bw (ge f) b0 4 (.pointer (some ⟨u.ad,0,none⟩)):=cA
   have hu:u∈T:=by
    have:u∈sN x T:=by rw[hN];exact Zj ..
    exact(ZB.1 this).1
   have bf:=Cu (HS.out u hu);rw[Hg.out]at bf;obtain⟨un,az⟩:=TB.out.ent u hu;have d0:bw (ge f) u.ad 0 (.string u.x.key):=jh az rfl;have d1:bw (ge f) u.ad 1 (.int .u64 (u.x.seq:Int)):=jh az rfl;have d2:bw (ge f) u.ad 2 (.bool u.x.gone):=jh az rfl;clear hN hu az;refine zbj ?_;go_wp2_with fail
   go_quiet (fail)
   go_wp2_with fail
   obtain⟨W5,aa⟩:∃W5,W5=((z.alloc (.cells #[ap b0,ap a1,ap a2,ap a3,ap a4,ap a5,ap a6,ap a7] 137)).drewN nq).alloc (.cells #[.string x.key,.int .u64 (x.seq:Int),.bool true,.string x.value,.pointer none,.pointer none,.pointer none,.pointer none,.pointer none,.pointer none,.pointer none,.pointer none] 140):=⟨_,rfl⟩;have m5:Mod (((z.alloc (.cells #[ap b0,ap a1,ap a2,ap a3,ap a4,ap a5,ap a6,ap a7] 137)).drewN nq).alloc (.cells #[.string x.key,.int .u64 (x.seq:Int),.bool true,.string x.value,.pointer none,.pointer none,.pointer none,.pointer none,.pointer none,.pointer none,.pointer none,.pointer none] 140)) w0 _:=zbk;rw[<-aa]at m5
   (try rw[<-aa])
   clear aa;have af:=tI m5;obtain⟨cs,ae⟩:∃cs:Array Value,cs=#[ap b0,ap a1,ap a2,ap a3,ap a4,ap a5,ap a6,ap a7]:=⟨_,rfl⟩;have aB:Hid (∀k,k<8->∃a,cs[k]?=some (ap a)/\lk hd T x k a):=by rw[ae];exact HL.out
   have ec:(#[.string x.key,.int .u64 (x.seq:Int),.bool true,.string x.value,.pointer none,.pointer none,.pointer none,.pointer none,.pointer none,.pointer none,.pointer none,.pointer none]:Array Value)=(lJ.cells (x,fun _=>none)).toArray:=by
    simp[lJ.cells,ao.cells,kM,Hg.out]
   rw[<-ae,ec]at m5;obtain⟨gn,aY⟩:∃gn,gn=z.heap.size+1:=⟨_,rfl⟩
   have m6:Mod W5 w0 (aE z.heap.size (.cells cs 137 (0,0))*(ge (f.put (z.heap.size+1) (x,fun _=>none))*(aE t (.cells #[ap hd,.int .i64 (K:Int),.int .i64 (U:Int)] 119 (0,0))*(aE w.heap.size (.cells #[.string x.key,.int .u64 (x.seq:Int),.bool true,.string x.value] 71 (0,0))*F)))):=by
    rw[<-pD _ _ _ af];exact Mod.to (m:=m5) (by ac_rfl)
   have aD:Hid (ir (f.put (z.heap.size+1) (x,fun _=>none)) hd T ⟨z.heap.size+1,x,fR⟩ 0):=ir.start TB.out (t:=⟨z.heap.size+1,x,fR⟩) af;clear m5 ec af HL ae;go_loopg [76] fR (fun gk vi wr=>∃(i:Nat)(Z:jA),i<=fR/\gk=fR-i/\vi=.int .i64 (i:Int)/\Hid (ir Z hd T ⟨z.heap.size+1,x,fR⟩ i)/\Mod wr w0 (aE z.heap.size (.cells cs 137 (0,0))*(ge Z*(aE t (.cells #[ap hd,.int .i64 (K:Int),.int .i64 (U:Int)] 119 (0,0))*(aE w.heap.size (.cells #[.string x.key,.int .u64 (x.seq:Int),.bool true,.string x.value] 71 (0,0))*F)))))
   case atStart=>exact⟨0,_,Zv _,rfl,rfl,aD,m6⟩
   case round =>
    obtain⟨i,Z,hi,aX,rfl,HP,m7⟩:=hrel;by_cases av:i<fR
    ·have au:(i:Int)<(fR:Int):=oMg
     have aZ:(i:Int)<8:=oMg
     obtain⟨a,aW,ag⟩:=aB.out i oMg
     have aL:∃c,Z a=some c:=by
      obtain⟨_,_,sp,_,_⟩:=ag.ex;exact sp.isSome HP.out.toTabBase
     obtain⟨V,ha⟩:=aL;obtain⟨J,I,_⟩:=HP.out.new;have I:Z (z.heap.size+1)=some (x,J):=I
     have ax:a≠z.heap.size+1:=by
      obtain⟨_,_,sp,_,_⟩:=ag.ex;intro e
      cases sp with
      | head e1 _ _=>exact HP.out.fresh (by rw[e1]at e;show z.heap.size+1∈_;rw[<-e];exact Zj ..)
      | tow P u e1 e2 _ _=>exact HP.out.fresh (by show z.heap.size+1∈_;rw[<-e,e2];exact Zh _ (ZC (by rw[e1];simp)))
     have aF:=zbj (HP.out.step (i:=i) (by show i<fR;exact av) oMg ag ha I);rw[fO I,fO (a:=a) (c:=V) (by simp[ax,ha])]at m7;obtain⟨M,B⟩:∃M,M=V.cells.toArray:=⟨_,rfl⟩;obtain⟨O,E⟩:∃O,O=(lJ.cells (x,J)).toArray:=⟨_,rfl⟩;have aI:M[4+i]?=some (kM (V.2 i)):=by rw[B];simpa using kC (c:=V) (show i<8 by omega)
     have aV:O[4+i]?=some (kM (J i)):=by rw[E];simpa using kC (c:=(x,J)) (show i<8 by omega)
     have m8:Mod wr w0 (aE a (.cells M 140 (0,0))*(aE (z.heap.size+1) (.cells O 140 (0,0))*(aE z.heap.size (.cells cs 137 (0,0))*(ge (fun k=>if k=a then none else if k=z.heap.size+1 then none else Z k)*(aE t (.cells #[ap hd,.int .i64 (K:Int),.int .i64 (U:Int)] 119 (0,0))*(aE w.heap.size (.cells #[.string x.key,.int .u64 (x.seq:Int),.bool true,.string x.value] 71 (0,0))*F)))))):=by
      rw[B,E];exact Mod.to (m:=m7) (by ac_rfl)
     have ai:=zbj B;have aj:=zbj E;obtain⟨po,ah⟩:∃po,kM (V.2 i)=.pointer po:=by cases V.2 i <;> exact⟨_,rfl⟩
     rw[ah]at aI;have aG:=zbj ah;clear m7 B E ah I ha;go_wp2_with fail
     go_region
     go_wp2_with fail
     go_roundg (fR-(i+1))
     case measure=>omega
     case rel =>
      have m9:Mod ((wr.setCell ⟨z.heap.size+1,4+i,none⟩ (.pointer po)).setCell ⟨a,4+i,none⟩ (.pointer (some ⟨z.heap.size+1,0,none⟩))) w0 _:=zbk;rw[ai.out,aj.out]at m9;refine⟨i+1,_,av,rfl,by go_num,aF,?_⟩;rw[<-yA _ _ ax];refine Mod.to (m:=Mod.drew (m:=m9)) ?_;rw[<-pV (c:=V) (k:=i) oMg (some (z.heap.size+1)),<-pV (c:=(x,J)) (k:=i) oMg (V.2 i),aG.out];simp only[b9,kM]
      ac_rfl
    ·have au:¬(i:Int)<(fR:Int):=oMg
     have aJ:i=fR:=oMg
     have ak:=zbj (ir.fin (t:=⟨z.heap.size+1,x,fR⟩) (by have:=HP.out;rw[aJ]at this;exact this) aT aU HS.out);go_wp2_with fail
     go_region
     go_wp2_with fail
     have ay:Mod ((wr.setCell ⟨t,1,none⟩ (.int .i64 ((K:Int)+1))).setCell ⟨t,2,none⟩ (.int .i64 ((U:Int)+((x.key.size:Int)+(x.value.size:Int))))).drew w0 _:=zbk;simp only[Zb,Zc,Zd,b9]at ay;go_ret
     refine⟨rfl,qK ak.out (zE _ _) ?_⟩;have e1:(oN x (T.map (·.x))).length=K+1:=by rw[(nD _ _).length_eq,List.length_cons,aP.out]
     have e2:ip (oN x (T.map (·.x)))=U+(x.key.size+x.value.size):=by rw[tD,aQ.out]
     rw[e1,e2];unfold je;simp only[Int.natCast_add,Int.natCast_one];have aN:=Mod.keep (T:=ge Z*(aE t (.cells #[ap hd,.int .i64 ((K:Int)+1),.int .i64 ((U:Int)+((x.key.size:Int)+(x.value.size:Int)))] 119 (0,0))*F)) ay;exact aN
theorem Ie (t:Nat)(l:List ao)(x:ao)(fR:Nat)(I:fS x)(z:1<=fR)(B:fR<=8)(J:l.length<4096)(K:∀y∈l,¬eW y x)(M:ip l<=1000000000000)(w w0:World)(F:ba)(m:Mod w w0 (im t l*F)) :
 Calls Tryz.prog 35 #[ap t,.agg #[.string x.key,.int .u64 (x.seq:Int),.bool x.gone,.string x.value],.int .i64 (fR:Int)] w fun e V=>e=.returned (.int .i64 0)/\Mod V w0 (im t (oN x l)*F):=by
 cases E:x.gone with
 | false=>exact KN t l x fR I E z B J K M w w0 F m
 | true =>
   have O:=I.gone E
   have U:x.value.toList=[]:=by
    rw[ByteArray.toList_eq];exact Zo (by rw[Array.length_toList];exact O)
   exact Ic t l x fR I E U z B J K M w w0 F m
end Go.Proofs.YtdfppjcaelghhaaGreatDoor
