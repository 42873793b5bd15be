/- Plain lemmas and contracts; the conditions are in each. -/
import Derived.Test.YtdfppjcaelghhaaGreatDoorEnCG
import Derived.Test.YtdfppjcaelghhaaGreatDoorEnDG
set_option maxHeartbeats 8000000
set_option maxRecDepth 100000
namespace Go.Proofs.YtdfppjcaelghhaaGreatDoor
open Go.RowKit Go.Sl
def Tk (_is:List (Nat×Option Tmp))(G:Prop):Prop:=G
theorem Tk.go (is:List (Nat×Option Tmp)){G:Prop}(h:Tk is G):G:=h
theorem Tk.stop {G:Prop}(h:G):Tk [] G:=h
section
variable {P:Program}{ops:Array Oper}{Q:Exit->Act->World->Prop}{md:Region.Mode}{S:World->Prop}{n:Nat}
theorem Tk.one {i:Nat}{d:Option Tmp}{is:List (Nat×Option Tmp)}{z:Oper}{v:Value}{f:Nat}{y:Array Bool}{a:Act}{w:World}(M:ops[i]?=some z)(V:YieldsIf P ops S z v a)(J:S w)
 (h:Tk is (jy P md ops Q S n f (y.setIfInBounds i true) (a.put d v) w)) (I:∀c a w,Q (.panic c) (a.put z.dst v) w->Q (.panic c) a w) (hd:z.dst=d:=by rfl) (E:tj md ops n i=true:=by kernel_rfl) (B:i≠n:=by decide)
 (U:Region.noSelect ops=true:=by kernel_rfl) (K:Region.free md ops y i=true:=by kernel_rfl) (O:(Region.ready md ops y).contains i=true:=by kernel_rfl):Tk ((i,d)::is) (jy P md ops Q S n (f+1) y a w) :=
 cj i d M hd E B U K O I V J h
theorem sX (i:Nat)(d:Option Tmp){f:Nat}{y:Array Bool}{a:Act}{w:World}{o:Oper}(E:ops[i]?=some o)(hd:o.dst=d)(B:o.guard=none)
 (h:∀z:Act->World->Prop,Shut (∀v w,S w->(S w->jy P md ops Q S n f (y.setIfInBounds i true) (a.put d v) w)->z (a.put d v) w)->Oper.wp P o a w z Q) (I:Region.ready md ops y=[i]:=by kernel_rfl):jy P md ops Q S n (f+1) y a w :=
 aw I (by simp) (am.cons d E hd B h am.nil)
theorem Il {f:Nat}{y:Array Bool}{a:Act}{w:World}(B:Region.ready md ops y=[])(h:Q .normal a w):jy P md ops Q S n f y a w:=by
 cases f with
 | zero=>exact⟨B,h⟩
 | succ f=>exact⟨fun _=>h,fun i z=>by rw[B]at z;cases z⟩
theorem Aa (d:Option Tmp){f:Nat}{y:Array Bool}{a:Act}{w:World}{o:Oper}(I:ops[n]?=some o)(hd:o.dst=d)(E:o.guard=none)
 (h:∀z:Act->World->Prop,Shut (∀v w,Q .normal (a.put d v) w->z (a.put d v) w)->Oper.wp P o a w z Q) (M:Region.ready md ops y=[n]:=by kernel_rfl) (O:Region.ready md ops (y.setIfInBounds n true)=[]:=by kernel_rfl):jy P md ops Q S n (f+1) y a w :=
 aw M (by simp) (am.last d I hd E fun K B=>h K fun v w J=>B.out v w (Il O J))
theorem BG {E I k:Nat}{ops:Array Oper}{S:World->Prop}{Q:Exit->Act->World->Prop}{a:Act}{w:World}(z:P.follows .mixedOrders=true)(hd:oq ops=true)(B:¬LetsOut Q)(y:S w.drew)
 (h:S w.drew->wpAnyH P .any ops Q S ops.size (Array.replicate ops.size false) a w.drew):(Code.region E ops true).wpIn (Fence.wide.inRound I) k P Q a w :=
 wpIn_region_any z (oa B hd _ _ _ _ (wpAny_of_held _ _ _ _ (h y)))
theorem Tk.gS {i:Nat}{d:Option Tmp}{is:List (Nat×Option Tmp)}{z:Oper}{v:Value}{f:Nat}{y:Array Bool}{a:Act}{w:World}(J:ops[i]?=some z)(O:YieldsIf P ops S z v a)(E:S w)
 (h:Tk is (wpAnyH P md ops Q S f (y.setIfInBounds i true) (a.put d v) w)) (B:∀c a w,Q (.panic c) (a.put z.dst v) w->Q (.panic c) a w) (hd:z.dst=d:=by rfl)
 (M:Region.noSelect ops=true:=by kernel_rfl) (I:Region.free md ops y i=true:=by kernel_rfl) (K:(Region.ready md ops y).contains i=true:=by kernel_rfl):Tk ((i,d)::is) (wpAnyH P md ops Q S (f+1) y a w):=by
 subst hd;exact wpAnyH_take J M I K B O E h
theorem g7 (i:Nat)(d:Option Tmp){f:Nat}{y:Array Bool}{a:Act}{w:World}{o:Oper}(M:ops[i]?=some o)(hd:o.dst=d)(J:o.guard=none)
 (h:∀z:Act->World->Prop,Shut (∀v w,S w->(S w->wpAnyH P md ops Q S f (y.setIfInBounds i true) (a.put d v) w)->z (a.put d v) w)->Oper.wp P o a w z Q) (O:Region.ready md ops y=[i]:=by kernel_rfl):wpAnyH P md ops Q S (f+1) y a w:=by
 subst hd;refine wpAnyH_ready O (by simp) (AllReadyH.cons M (fun K B=>?_) AllReadyH.nil);have:Region.wanted o (yielded ops a.tmps)=true:=by unfold Region.wanted;rw[J]
 rw[if_pos this];exact h K fun v w E I=>B.out _ w E I
theorem mH {f:Nat}{y:Array Bool}{a:Act}{w:World}(h:Q .normal a w)(z:Region.ready md ops y=[]:=by kernel_rfl):wpAnyH P md ops Q S f y a w:=wpAnyH_done z h f
theorem jN {o:Oper}{a:Act}{w:World}{K:Act->World->Prop}{t e bytes:Nat} [T:wl P t e bytes]{x:Operand}(J:o.op=.buildSlice t 1 #[(0,x)]){v:Value}(M:a.eval x=v)(B:v.cells=#[v])
 (h:K (a.put o.dst (.slice (some ⟨w.heap.size,0,none⟩) 1 1)) (w.alloc (.cells #[v] e))):o.wp P a w K Q:=by
 obtain⟨i,z,I,O,y,E,U⟩:=T.get;refine wp_buildSlice t e 1 #[(0,x)] J #[v] i z T.ht I O (by rw[y];omega) (by rw[y];omega) ?_ h;have:=Go.Great.fill_whole (show 0<1 by omega) [v] ((Array.range (1*i.size)).map (z.cells[·%z.cells.size]!)) (by simp[B]) (by simp[y]);simp only[List.zipIdx_cons,List.zipIdx_nil,Zy,Ye]at this;rw[y]at this ⊢;simp only[Y0,Zy,Ye,M];rw[this];simp[B]
end
end Go.Proofs.YtdfppjcaelghhaaGreatDoor
namespace Go.Sl
open Go
def wu (s:fK):Nat×fK:=((jr s.1).1,(s.1.drop (jr s.1).2.1,s.2 || !(decide ((jr s.1).2.2=0))))
def jR:ByteArray:=⟨#[]⟩
def Bw (last:ByteArray)(s:fK):ao×fK :=
 if last.size<(wu s).1 then (⟨jR,0,false,jR⟩,((wu s).2.1,true))else
 let t:=pt (wu s).2
 let q:=wu t.2
 let key:ByteArray:=⟨(last.data.toList.take (wu s).1++t.1).toArray⟩
 match q.2.1 with
 | []=>(⟨key,q.1,false,jR⟩,([],true))
 | g::r=>if g=1 then (⟨key,q.1,true,jR⟩,(r,q.2.2))else (⟨key,q.1,false,⟨(pt (r,q.2.2)).1.toArray⟩⟩,(pt (r,q.2.2)).2)
theorem BO {n:Nat}(hn:n<18446744073709551616)(r:List UInt8)(y:Bool):wu (ca n++r,y)=(n,(r,y)):=by
 unfold wu;simp only[B9 hn r];rw[za1];simp
theorem L9 {s:ByteArray}(h:s.size=0):s=jR:=by
 apply Xl;apply YY.1;exact Zo (by rw[Array.length_toList];exact h)
theorem toList_data (s:ByteArray):s.toList=s.data.toList:=by rw[ByteArray.toList_eq]
theorem Mi (i:Nat)(last key:ByteArray):(⟨(last.data.toList.take (rD i last key)++(oE key (rD i last key)).data.toList).toArray⟩:ByteArray)=key:=by
 have h:=Km i last key;rw[toList_data,toList_data]at h;apply Xl;apply YY.1;show last.data.toList.take _++(key.toList.drop _).toArray.toList=key.data.toList;rw[h,toList_data];simp
theorem Ki {x:ao}(h:fS x)(i:Nat)(last:ByteArray)(r:List UInt8):Bw last (tK i last x++r,false)=(x,(r,false)):=by
 have I:=h.size;have hp:=IG i last x.key;have z:=q8 x.key (rD i last x.key);have y:=Mi i last x.key;have J:last.toList.length=last.size:=by rw[toList_data,Array.length_toList];rfl
 have K:x.key.toList.length=x.key.size:=by rw[toList_data,Array.length_toList];rfl
 have E:=h.value;have B:=h.seq
 have e:tK i last x++r=ca (rD i last x.key)++(fk (oE x.key (rD i last x.key))++(ca x.seq++(sK x.gone::((if x.gone then []else fk x.value)++r)))):=by
  unfold tK jz;simp only[Zr,List.cons_append]
 rw[e];unfold Bw;rw[BO oMg];simp only;rw[if_neg oMg,xT oMg];simp only;rw[BO B];simp only;rw[y];obtain⟨k,s,g,v⟩:=x
 cases g with
 | true =>
   have:v=jR:=L9 (h.gone rfl);subst this;simp[sK]
 | false =>
   simp only[sK,YH,if_false];rw[if_neg (by decide),xT (by show v.size≤_;simp only at E;omega)]
theorem MM (i:Nat)(last:ByteArray)(x:ao)(r:List UInt8):tK i last x++r≠[]:=by
 intro h;have y:=congrArg List.length h;have z:=we (rD i last x.key);unfold tK at y;simp only[Ze,List.length_nil]at y;omega
theorem FC {l:List ao}(h:sk l):(cU l).length=(kH 0 ⟨#[]⟩ l).length+2*(mC 0 0 ⟨#[]⟩ l).length+2/\((cU l).getD ((cU l).length-2) 0).toNat=0/\((cU l).getD ((cU l).length-1) 0).toNat=(mC 0 0 ⟨#[]⟩ l).length/\(cU l).take (kH 0 ⟨#[]⟩ l).length=kH 0 ⟨#[]⟩ l:=by
 have hp:=qi l 0 0 ⟨#[]⟩;have I:=h.few;unfold cU;generalize mC 0 0 ⟨#[]⟩ l=y at *;generalize kH 0 ⟨#[]⟩ l=z at *
 have B:(z++(y.flatMap sj++sj y.length)).length=z.length+2*y.length+2:=by
  rw[Ze,Ze,vy];simp[sj];omega
 have e:z++(y.flatMap sj++sj y.length)=(z++y.flatMap sj)++sj y.length:=by rw[Zr]
 have E:(z++y.flatMap sj).length=z.length+2*y.length:=by rw[Ze,vy]
 refine⟨B,?_,?_,?_⟩
 ·rw[B,e,Zw,Z7 oMg,E,show z.length+2*y.length+2-2-(z.length+2*y.length)=0 by omega]
  simp only[sj,List.getElem?_cons_zero,Option.getD_some,UInt8.toNat_ofNat'];omega
 ·rw[B,e,Zw,Z7 oMg,E,show z.length+2*y.length+2-1-(z.length+2*y.length)=1 by omega]
  simp only[sj,List.getElem?_cons_succ,List.getElem?_cons_zero,Option.getD_some,UInt8.toNat_ofNat'];omega
 ·rw[XC]
theorem qj:cH []=[]:=by rw[cH];simp
theorem o4 {l:List ao}(h:l≠[]):cH l=l.take 16::cH (l.drop 16):=by rw[cH];simp[h]
theorem qU (l:List ao):(cH l).flatten=l:=by
 induction l using cH.induct with
 | case1=>simp[qj]
 | case2 l h ih=>rw[o4 h,List.flatten_cons,ih,YT]
theorem jV {l c:List ao}(h:c∈cH l):c≠[]/\c.length<=16/\c.Sublist l:=by
 induction l using cH.induct with
 | case1=>rw[qj]at h;cases h
 | case2 l hl ih =>
   rw[o4 hl]at h;rcases Zu.1 h with rfl | h
   ·refine⟨fun e=>?_,by rw[Zt];omega,za4 _ _⟩
    have:=congrArg List.length e;have y:=ZO.2 hl;rw[Zt,List.length_nil]at this;omega
   ·obtain⟨z,y,B⟩:=ih h
    exact⟨z,y,B.trans (List.drop_sublist _ _)⟩
theorem I5 (l:List ao):(cH l).length<=l.length:=by
 induction l using cH.induct with
 | case1=>simp[qj]
 | case2 l h ih =>
   have:=ZO.2 h;rw[o4 h,List.length_cons];rw[ZF]at ih;omega
theorem xm (l:List ao):16*(cH l).length<=l.length+15:=by
 induction l using cH.induct with
 | case1=>simp[qj]
 | case2 l h ih =>
   have:=ZO.2 h;rw[o4 h,List.length_cons];rw[ZF]at ih;omega
theorem yR {l c:List ao}(z:fV l)(h:c∈cH l):sk c:=by
 obtain⟨B,I,y⟩:=jV h;exact⟨ZO.2 B,oMg,fun x E=>z.ok x (y.subset E),z.rise.sublist y⟩
theorem xL:∀(cs:List (List ao))(p:Nat)(c:List ao),iz p (cs++[c])=iz p cs++(ca (p+(dj cs).length)++(fk (lg c).key++(ca (lg c).seq++[sK (lg c).gone])))
 | [],p,c=>by simp[iz,dj]
 | d::cs,p,c=>by
   simp only[List.cons_append,iz,xL cs,Zr]
   have e:p+(gt (cU d)).length+(dj cs).length=p+(dj (d::cs)).length:=by
    unfold dj;rw[Zp,Ze];omega
   rw[e]
theorem ED (cs:List (List ao))(c:List ao):dj (cs++[c])=dj cs++gt (cU c):=by simp[dj]
theorem uH:∀(cs:List (List ao)),(∀c∈cs,c.length<=16/\∀x∈c,fS x)->(dj cs).length<=5034*cs.length
 | [],_=>by simp[dj]
 | c::cs,h=>by
   have z:=uH cs fun d hd=>h d (Zh _ hd);have y:=h c (Zj ..);have B:=qS y.2;have e:dj (c::cs)=gt (cU c)++dj cs:=by simp[dj]
   rw[e,Ze,jM,List.length_cons];omega
theorem uY {c:List ao}(h:sk c)(y:c.length<=16):(cU c).length<=5026:=by
 have:=qS h.ok;omega
theorem Ci {c:List ao}(h:c≠[]):lg c∈c:=by
 have:=ZO.2 h;unfold lg;rw[Zw,Zg oMg];exact Zq _
theorem rz:∀(cs:List (List ao))(p:Nat),(∀c∈cs,c≠[]/\c.length<=16/\∀x∈c,fS x)->p+5034*cs.length<18446744073709551616->(iz p cs).length<=54*cs.length
 | [],_,_,_=>by simp[iz]
 | c::cs,p,h,hp=>by
   have y:=h c (Zj ..);have E:=qS y.2.2;have B:=rz cs (p+(gt (cU c)).length) (fun d hd=>h d (Zh _ hd)) (by rw[jM];rw[List.length_cons]at hp;omega);have z:=y.2.2 _ (Ci y.1);have I:=cN (n:=p) oMg;have J:=cN z.seq;have K:=z.size;have M:(ca (lg c).key.size).length<=1:=pE 0 _ oMg;simp only[iz,Ze,List.length_cons,List.length_nil,pC];omega
theorem Fu:∀(l:List ao)(a x:ao),(a::(l++[x])).zip (l++[x])=(a::l).zip l++[((a::l).getLast (by simp),x)]
 | [],a,x=>by simp
 | b::l,a,x=>by
   have y:=Fu l b x;simp only[List.cons_append,List.zip_cons_cons]at y ⊢;rw[y];simp
theorem Gt {l:List ao}(h:l≠[])(x:ao):nu (l++[x])=nu l++(if x.key=(l.getLast h).key then []else [x.key]):=by
 cases l with
 | nil=>exact absurd rfl h
 | cons a l =>
   unfold nu;simp only[List.cons_append];rw[Fu,List.filterMap_append]
   split <;> simp_all
theorem Gu {l:List ao}{i:Nat}(h:i<l.length):nu (l.take (i+1))=nu (l.take i)++(if i=0 then [l[i].key]else if l[i].key=(l.getD (i-1) default).key then []else [l[i].key]):=by
 rw[Zx h]
 cases i with
 | zero=>simp[nu]
 | succ i =>
   have z:l.take (i+1)≠[]:=fun e=>by
    have:=congrArg List.length e;rw[Zt,List.length_nil]at this;omega
   have y:(l.take (i+1)).getLast z=l.getD i default:=by
    rw[List.getLast_eq_getElem,Zw,Zg oMg];simp[YJ (show i+1<=l.length by omega)]
   rw[Gt z,y];simp
theorem JH (l:List ao):(nu l).length<=l.length:=by
 unfold nu
 cases l with
 | nil=>simp
 | cons x l =>
   simp only[List.length_cons];have:=List.length_filterMap_le (fun p:ao×ao=>if p.2.key=p.1.key then none else some p.2.key) ((x::l).zip l);rw[List.length_zip,List.length_cons]at this;omega
theorem JI {l:List ao}{k:ByteArray}(h:k∈nu l):∃x∈l,x.key=k:=by
 unfold nu at h
 cases l with
 | nil=>cases h
 | cons x l =>
   rcases Zu.1 h with rfl | h
   ·exact⟨x,Zj ..,rfl⟩
   ·obtain⟨p,hp,y⟩:=List.mem_filterMap.1 h
    split at y
    ·cases y
    ·injection y with y
     exact⟨p.2,Zh _ (List.of_mem_zip hp).2,y⟩
theorem FI:∀(k:Nat){l:List ao}{P:List (List ao)},cH l=P++cH (l.drop (16*k))->16*k<l.length->cH l=(P++[(l.drop (16*k)).take 16])++cH (l.drop (16*(k+1)))
 | k,l,P,h,hk=>by
   have y:l.drop (16*k)≠[]:=fun e=>by
    have:=congrArg List.length e;rw[ZF,List.length_nil]at this;omega
   rw[h,o4 y,zbl,show 16*k+16=16*(k+1) by omega];simp
end Go.Sl
namespace Go.Proofs.YtdfppjcaelghhaaGreatDoor
open Go.RowKit Go.Sl
attribute [local go_sem] ab bj bh bd
def Bd (g:Nat)(s:fK)(G F:ba)(w0 w:World):Prop :=
 ∃(A:Option Addr)(n c:Nat),s.1.length=n/\n<=c/\n<=1000000000/\bk G A n (b7 s.1)/\Mod w w0 (aE g (.cells #[.slice A n c,.bool s.2] 337 (0,0))*F)
theorem Bd.turn {g:Nat}{s:fK}{G F F':ba}{w0 w w1:World}(h:Bd g s G F w0 w)(m:∀X:ba,Mod w w0 (X*F)->Mod w1 w0 (X*F')):Bd g s G F' w0 w1:=by
 obtain⟨A,n,c,y,z,B,E,I⟩:=h;exact⟨A,n,c,y,z,B,E,m _ I⟩
theorem ss (g:Nat)(b:List UInt8)(y:Bool)(J k:Nat)(hk:k<=b.length)(G F:ba)(w w0:World)(h:Bd g (b,y) G F w0 w) :
 Calls Tryz.prog 301 #[ap g,.int .i64 (k:Int),.int .i64 (J:Int)] w fun e w'=>e=.returned (.tuple #[])/\Bd g (b.drop k,y || !(decide (J=0))) G F w0 w':=by
 obtain⟨A,n,c,O,Z,h3,U,m⟩:=h;simp only at O U m;have V:k<=n:=oMg
 have B:=nO U V Z;have I:Hid ((b.drop k).length=n-k):=by show _=_;rw[ZF,O]
 have aa:(k:Int)<=(n:Int):=oMg
 have ae:(n:Int)<=(c:Int):=oMg
 clear U O hk;by_cases M:J=0
 ·subst M
  rw[decide_eq_true rfl];by_cases z:c=k
  ·subst z
   rw[if_pos rfl]at B;have E:n-c=0:=oMg
   rw[E]at B;have K:=zbj E;clear E;cases y
   all_goals
    go_enter Tryz.func301,Tryz.ntmps301
    go_wp2_with fail
    go_end0
    refine⟨rfl,A,0,0,by rw[I.out,K.out],Zm _,oMg,B,?_⟩;exact qB (by simp only[Zb,Zc,Zd,b9];rfl)
  ·rw[if_neg z]at B
   cases y
   all_goals
    go_enter Tryz.func301,Tryz.ntmps301
    go_wp2_with fail
    go_end0
    refine⟨rfl,_,n-k,c-k,I.out,oMg,oMg,B,?_⟩;exact qB (by simp only[Zb,Zc,Zd,b9];rfl)
 ·have Y:(((J:Int)!=0)=true):=bne_iff_ne.2 oMg
  rw[decide_eq_false M];clear M;by_cases z:c=k
  ·subst z
   rw[if_pos rfl]at B;have E:n-c=0:=oMg
   rw[E]at B;have K:=zbj E;clear E;cases y
   all_goals
    go_enter Tryz.func301,Tryz.ntmps301
    go_wp2_with fail
    go_end0
    refine⟨rfl,A,0,0,by rw[I.out,K.out],Zm _,oMg,B,?_⟩;exact qB (by simp only[Zb,Zc,Zd,b9];rfl)
  ·rw[if_neg z]at B
   cases y
   all_goals
    go_enter Tryz.func301,Tryz.ntmps301
    go_wp2_with fail
    go_end0
    refine⟨rfl,_,n-k,c-k,I.out,oMg,oMg,B,?_⟩;exact qB (by simp only[Zb,Zc,Zd,b9];rfl)
theorem xi (g:Nat)(s:fK)(G F:ba)(Y:Sub F G)(w w0:World)(h:Bd g s G F w0 w) :
 Calls Tryz.prog 299 #[ap g] w fun e w'=>e=.returned (.int .u64 ((wu s).1:Int))/\Bd g (wu s).2 G F w0 w':=by
 obtain⟨b,y⟩:=s;obtain⟨A,n,c,E,J,K,B,m⟩:=h;simp only at E B m;have O:=zbj (fun(u:World)(mu:Mod u w0 (aE g (.cells #[.slice A n c,.bool y] 337 (0,0))*F))=>Cd A n c b u w0 _ mu (ct (zbk:Sub _ F) (ct Y B)) K J);have M:=zt b;have U:=zbj (fun(u:World)(mu:Mod u w0 (aE g (.cells #[.slice A n c,.bool y] 337 (0,0))*F))=>ss g b y (jr b).2.2 (jr b).2.1 M G F u w0 ⟨A,n,c,E,J,K,B,mu⟩);have I:Hid (wu (b,y)=((jr b).1,(b.drop (jr b).2.1,y || !(decide ((jr b).2.2=0))))):=rfl;clear E B M;generalize jr b=z at *;obtain⟨v,k,er⟩:=z;go_enter Tryz.func299,Tryz.ntmps299
 go_wp2_with first
  | (go_at_call 164;refine(O.out _ m).mono ?_;rintro e w1 ⟨rfl,Z⟩)
  | (go_at_call 301;refine(U.out _ Z).mono ?_;rintro e w2 ⟨rfl,V⟩)
 go_ret
 exact⟨by rw[I.out];rfl,by rw[I.out];exact V⟩
theorem uX (g:Nat)(s:fK)(G F:ba)(Y:Sub F G)(w w0:World)(h:Bd g s G F w0 w) :
 Calls Tryz.prog 300 #[ap g] w fun e w'=>e=.returned (.string ⟨(pt s).1.toArray⟩)/\Bd g (pt s).2 G F w0 w':=by
 obtain⟨b,y⟩:=s;obtain⟨A,n,c,E,J,K,B,m⟩:=h;simp only at E B m;have O:=zbj (fun(u:World)(mu:Mod u w0 (aE g (.cells #[.slice A n c,.bool y] 337 (0,0))*F))=>Bm A n c b u w0 _ mu (ct (zbk:Sub _ F) (ct Y B)) K J);have M:=Ly b;have U:=zbj (fun(u:World)(mu:Mod u w0 (aE g (.cells #[.slice A n c,.bool y] 337 (0,0))*F))=>ss g b y (qu b).2.2 (qu b).2.1 M G F u w0 ⟨A,n,c,E,J,K,B,mu⟩);have I:Hid (pt (b,y)=((qu b).1,(b.drop (qu b).2.1,y || !(decide ((qu b).2.2=0))))):=rfl;clear E B M;generalize qu b=z at *;obtain⟨v,k,er⟩:=z;go_enter Tryz.func300,Tryz.ntmps300
 go_wp2_with first
  | (go_at_call 225;refine(O.out _ m).mono ?_;rintro e w1 ⟨rfl,Z⟩)
  | (go_at_call 301;refine(U.out _ Z).mono ?_;rintro e w2 ⟨rfl,V⟩)
 go_ret
 exact⟨by rw[I.out];rfl,by rw[I.out];exact V⟩
theorem P3 (B:Nat)(z:Nat)(y:z<=1000000)(E I:Value)(A:Option Addr)(n c:Nat)(xs:List UInt8)(hn:n<=100000000)(p:Nat)(hp:p<=100000000)(x:ao)(J:fS x)(w w0:World)(S:ba)(m:Mod w w0 (aE B (.cells #[.int .i64 (z:Int),.slice A n c,E,I] 241 (0,0))*(ar 5 1 (.slice A n c) n (b7 xs)*S)))(b:List UInt8)(K:b=ca p++(fk x.key++(ca x.seq++[sK x.gone]))) :
 Calls Tryz.prog 172 #[ap B,.int .i64 (p:Int),.agg #[.string x.key,.int .u64 (x.seq:Int),.bool x.gone]] w fun e M=>e=.returned (.tuple #[])/\∃A' c',Mod M w0 (aE B (.cells #[.int .i64 ((z:Int)+1),.slice A' (n+b.length) c',E,I] 241 (0,0))*(ar 5 1 (.slice A' (n+b.length) c') (n+b.length) (b7 (xs++b))*S)):=by
 subst K
 cases O:x.gone with
 | true=>exact Hj B z y E I A n c xs hn p hp x J w w0 S m
 | false=>exact KG B z y E I A n c xs hn p hp x J w w0 S m
theorem ri (B:Option Addr)(n c v:Nat)(l:List UInt8)(z:v<4294967296)(w w0:World)(S:ba)(m:Mod w w0 S)(r:bk S B n (b7 (ff v++l)))(hn:n<=9223372036854775807)(y:n<=c) :
 Calls Tryz.prog 176 #[.slice B n c] w fun e E=>e=.returned (.tuple #[.int .u32 (v:Int),.int .i64 0])/\Mod E w0 S:=by
 have h:=vz B n c _ _ _ _ l w w0 S m r hn y;rw[zr v z]at h;exact h
theorem Ge (b o n c:Nat)(y rest:List UInt8)(h0:0<y.length)(h1:y.length<=65536)(hn:n<=100000000)(V:n<=c)(w w0:World)(S:ba)(m:Mod w w0 S)(r:bk S (some ⟨b,o,none⟩) n (b7 (gt y++rest))) :
 Calls Tryz.prog 251 #[.slice (some ⟨b,o,none⟩) n c] w fun e w'=>∃A' c',e=.returned (.tuple #[.slice A' y.length c',.int .i64 ((8+y.length:Nat):Int),.int .i64 0])/\Mod w' w0 (ar 5 1 (.slice A' y.length c') y.length (b7 y)*S):=by
 have Y:=fp m r;rw[fg,Ze,jM]at Y;obtain⟨z,E⟩:∃z,(rx (ff y.length) y).toNat=z:=⟨_,rfl⟩;have I:z<4294967296:=by rw[<-E];exact(rx (ff y.length) y).isLt
 have K:gt y++rest=ff y.length++(ff z++(y++rest)):=by unfold gt;rw[E];simp only[Zr]
 rw[K]at r
 have M:bk S (some ⟨b,o+4,none⟩) (n-4) (b7 (ff z++(y++rest))):=by
  have h:=r.part 4 (n-4) oMg
  have e:((b7 (ff y.length++(ff z++(y++rest)))).drop 4).take (n-4)=b7 (ff z++(y++rest)):=by
   rw[show b7 (ff y.length++(ff z++(y++rest)))=b7 (ff y.length)++b7 (ff z++(y++rest))from eC _ _,X0 (by simp[b7,ff]),Zn];rw[fg,Ze,Ze];simp[ff];omega
  rw[e]at h;exact h
 have ra:bk S (some ⟨b,o,none⟩) 4 (b7 (ff y.length)):=by
  have h:=r.pre 4 oMg
  rwa [show (b7 (ff y.length++(ff z++(y++rest)))).take 4=b7 (ff y.length)from by rw[eC,zbg (by simp[b7,ff])]]at h
 have O:bk S (some ⟨b,o+8,none⟩) y.length (b7 y):=by
  have h:=M.part 4 y.length oMg
  have e:((b7 (ff z++(y++rest))).drop 4).take y.length=b7 y:=by
   rw[show b7 (ff z++(y++rest))=b7 (ff z)++(b7 y++b7 rest)from by simp only[eC],X0 (by simp[b7,ff]),zbg (by rw[fg])]
  rw[e]at h;exact h
 have U:=zbj (fun(u:World)(J:Mod u w0 S)=>zs (some ⟨b,o,none⟩) (some ⟨b,o+8,none⟩) 4 4 y.length y.length (ff y.length) y oMg oMg u w0 S J ra O);rw[E]at U;have HC:=zbj (fun(u:World)(J:Mod u w0 S)=>sy (some ⟨b,o+8,none⟩) y.length y.length (b7 y) u w0 S J O (io _) oMg);have H1:=zbj (fun(u:World)(J:Mod u w0 S)=>ri (some ⟨b,o,none⟩) n c y.length _ oMg u w0 S J r oMg V);have H2:=zbj (fun(u:World)(J:Mod u w0 S)=>ri (some ⟨b,o+4,none⟩) (n-4) (c-4) z _ I u w0 S J M oMg oMg);generalize y.length=k at *;clear r M ra O E K;have aj:¬(65536:Int)<(k:Int):=oMg
 have ah:(k:Int)+8<=(n:Int):=oMg
 have ai:¬(n:Int)<8+(k:Int):=oMg
 have au:(n:Int)<=(c:Int):=oMg
 have ak:(8:Int)<=(n:Int):=oMg
 have ag:¬k=0:=oMg
 have aa:(4:Int)<=(c:Int):=oMg
 have af:(8:Int)<=8+(k:Int):=oMg
 have ae:8+(k:Int)<=(c:Int):=oMg
 have he:((z:Int)!=(z:Int))=false:=by simp
 clear Y h1 h0 I hn V;go_enter Tryz.func251,Tryz.ntmps251
 have B:=True.intro;go_wp2_with (go_at_call 176;clear B;refine(H1.out _ m).mono ?_;rintro e w1 ⟨rfl,m1⟩)
 have B:=True.intro;go_wp2_with (go_at_call 176;clear B;refine(H2.out _ m1).mono ?_;rintro e w2 ⟨rfl,Z⟩)
 have:=jO.some Z;refine dy Z kRf kRf ?_
 repeat (go_big_quiet_step ((go_at_call 275;refine cW (U.out _ ?_);exact zbk)))
 refine wpQuiet_nil ?_;rintro w3 ⟨s,rfl⟩;have m3:=s.mod;go_wp2_with (go_at_call 45;refine(HC.out _ m3).mono ?_;rintro e w4 ⟨A4,c4,rfl,m4⟩)
 go_ret3
 exact⟨A4,c4,by rw[show ((8+k:Nat):Int)=8+(k:Int)from by omega];rfl,m4⟩
open Go.RowKit Go.Sl Go.Shelf
attribute [local go_sem] ab bj bh bd Oper.semAt_some
structure Fw (A:Option Addr)(N:Nat)(l:List ao)(pre:List cQ)(x:cQ):Prop where
 runs:∃rest,cH l=pre.map (·.l)++x.l::rest
 reads:∀SS,bp SS A N l->bp SS x.A x.l.length x.l
 cap:x.l.length<=x.c
theorem I6 (ps pn N c:Nat)(A:Option Addr)(l:List ao)(V:l.length=N)(hN:N<=1000000)(hc:N<=c)(w0:World) :
 Im Tryz.prog w0 229 #[ap ps,ap pn] (fun x:cQ=>#[x.val]) (fun T=>bp T A N l) (aE ps (.cells #[.slice A N c] 59 (0,0))*aE pn (.cells #[.int .i64 16] 3 (0,0))) (fun _=>sC) (fun xs=>xs.map (·.l)=cH l) (fun _=>True) (Fw A N l):=by
 intro Z J Jx W aa hR m;show Calls Tryz.prog 229 #[.func (.yield Z) #[] #[],ap ps,ap pn] W _;have E:=zbj V;clear V;go_enter Tryz.func229,Tryz.ntmps229
 go_wp2_with fail
 go_loopg [4] N (fun gk v4 wr=>∃(pre:List cQ)(k:Nat),gk=N-16*k/\16*k<=N+16/\v4=.int .i64 ((16*k:Nat):Int)/\Hid (cH l=pre.map (·.l)++cH (l.drop (16*k)))/\Mod wr w0 (J pre*(aE ps (.cells #[.slice A N c] 59 (0,0))*aE pn (.cells #[.int .i64 16] 3 (0,0)))))
 case atStart=>exact⟨[],0,oMg,oMg,rfl,by show _=_;simp,m⟩
 case round =>
  obtain⟨pre,k,af,hk,rfl,B,m2⟩:=hrel;obtain⟨q,hq⟩:∃q,16*k=q:=⟨_,rfl⟩;rw[hq]at af hk B ⊢;by_cases Y:q<N
  ·have ag:(q:Int)<(N:Int):=oMg
   have av:(q:Int)<=(c:Int):=oMg
   have ak:(N:Int)<=(c:Int):=oMg
   obtain⟨b,o,rfl⟩:=gw m2 ((aa pre).lift zbk) Y;obtain⟨t,ht⟩:∃t,min 16 (N-q)=t:=⟨_,rfl⟩;have az:min (16:Int) ((N-q:Nat):Int)=(t:Int):=oMg
   have ay:0<t:=oMg
   have ah:q+t<=N:=oMg
   have ae:(l.drop q).length=N-q:=by rw[ZF,E.out]
   have K:t<=(l.drop q).length:=oMg
   have hT:(l.drop q).take t=(l.drop q).take 16:=by
    by_cases aj:16<=N-q
    ·rw[show t=16 by omega]
    ·rw[Zn oMg,Zn oMg]
   have I:cH l=(pre.map (·.l)++[(l.drop q).take t])++cH (l.drop (16*(k+1))):=by
    rw[hT,<-hq];exact FI k (by rw[hq];exact B.out) (by rw[hq,E.out];exact Y)
   have O:Fw (some ⟨b,o,none⟩) N l pre ⟨some ⟨b,o+q*4,none⟩,t,(l.drop q).take t⟩:=by
    refine⟨⟨_,by rw[I];simp;rfl⟩,fun SS h=>?_,by show ((l.drop q).take t).length<=t;rw[Zt];omega⟩;have h1:=h.part q t ah
    have e:(some (⟨b,o,none⟩:Addr)).map (·.add (q*4))=some ⟨b,o+q*4,none⟩:=by
     show some ((⟨b,o,none⟩:Addr).add (q*4))=_;rw[jl _ _ rfl]
    rw[e]at h1;show bp SS _ ((l.drop q).take t).length ((l.drop q).take t);rw[Zt,YJ K];exact h1
   obtain⟨fn,tmps,y,z,hy,U⟩:=hR pre _ _ wr.drew O (Mod.drew (m:=m2))
   have hy:(Instr.yield Z #[.slice (some ⟨b,o+q*4,none⟩) t t]).run Tryz.prog wr.drew=.ok (.round Z fn tmps y z) wr.drew:=by
    have h:(Instr.yield Z #[cQ.val ⟨some ⟨b,o+q*4,none⟩,t,(l.drop q).take t⟩]).run Tryz.prog wr.drew=.ok (.round Z fn tmps y z) wr.drew:=hy;rw[AV _ _ _ _ K]at h;exact h
   have HP:Hid (cH l=(pre++[(⟨some ⟨b,o+q*4,none⟩,t,(l.drop q).take t⟩:cQ)]).map (·.l)++cH (l.drop (16*(k+1)))):=by
    show _=_;rw[I];simp
   have ax:(q:Int)+(t:Int)<=(c:Int):=oMg
   have ai:(q:Int)<=(q:Int)+(t:Int):=oMg
   have au:¬q+t=q:=oMg
   clear ae K hT I O;go_wp2_with fail
   go_region
   go_upto_region 4 with(fail)
   refine(wpIn_wide (n:=6)).1 ?_
   gi_wp2
   refine U.mono ?_;rintro e W3 (⟨rfl,m5⟩ | ⟨rfl,m5⟩)
   ·gi_wp2
    clear U hy;go_wp2_with fail
    go_roundg (N-16*(k+1))
    case measure=>omega
    case rel=>exact⟨_,k+1,rfl,oMg,by rw[show ((16*(k+1):Nat):Int)=(q:Int)+16 by omega],HP,m5⟩
   ·gi_wp2
    go_wp2
    refine bodyPost_ret (results_none rfl _ _ _) rfl ?_;exact⟨⟨_,rfl⟩,.inr ⟨_,trivial,Mod.to (m:=Mod.lP (m:=m5)) (eI _).symm⟩⟩
  ·have ag:¬(q:Int)<(N:Int):=oMg
   have M:Hid (pre.map (·.l)=cH l):=by
    show _=_;rw[B.out,Yj (by rw[E.out];omega),qj,ZH]
   go_wp2_with fail
   go_end0
   exact⟨⟨_,rfl⟩,.inl ⟨pre,M.out,Mod.to (m:=Mod.lP (m:=m2)) (eI _).symm⟩⟩
theorem KU:∃y,Tryz.prog.underlying 71=some (.struct y):=⟨_,Tryz.underlying71⟩
theorem rO:(Tryz.prog.info? 71).map (·.size)=some 4:=kRf
theorem Gh (b:List UInt8):(qu b).1.length<=b.length:=by
 unfold qu
 split
 ·simp
 ·split
  ·simp
  ·simp only[Zt,ZF];omega
def NX (x:ao):Value:=.agg #[.string x.key,.int .u64 (x.seq:Int),.bool x.gone,.string x.value]
abbrev sE (g:Nat)(k:ByteArray)(q:Nat)(go:Bool)(v:ByteArray):ba:=aE g (.cells #[.string k,.int .u64 (q:Int),.bool go,.string v] 71 (0,0))
theorem CN (g:Nat)(last:ByteArray)(aK:last.size<=1000000000)(s:fK)(G F:ba)(hs:Sub F G)(w w0:World)(h:Bd g s G F w0 w) :
 Calls Tryz.prog 284 #[ap g,.string last] w fun e w'=>e=.returned (NX (Bw last s).1)/\Bd g (Bw last s).2 G F w0 w':=by
 have h1:Bd g s G (sE w.heap.size jR 0 false jR*F) w0 (w.alloc (.cells #[.string ⟨#[]⟩,.int .u64 0,.bool false,.string ⟨#[]⟩] 71)) :=
  h.turn fun X m=>Mod.to (m:=Mod.alloc (m:=m) _) (by unfold sE jR;ac_rfl)
 obtain⟨n1,s1,Y⟩:∃n1 s1,wu s=(n1,s1):=⟨_,_,rfl⟩;have H1:=zbj (fun(u:World)(E:ba)(hh:Sub E G)(I:Bd g s G E w0 u)=>xi g s G E hh u w0 I);have aP:n1<18446744073709551616:=by have:=zu s.1;rw[show (jr s.1).1=(wu s).1 from rfl,Y]at this;exact this
 rw[Y]at H1;obtain⟨z,aI⟩:∃z,w.heap.size=z:=⟨_,rfl⟩;rw[aI]at h1;have K1:=zbj h1;have HS:=zbj hs;obtain⟨fs,I⟩:=KU;have aR:IntKind.u64.wrap (last.size:Int)=(last.size:Int):=by rw[IntKind.wrap_u64];omega
 clear h h1 hs;by_cases J:last.size<n1
 ·have hE:Hid (Bw last s=(⟨jR,0,false,jR⟩,(s1.1,true))):=by show _=_;unfold Bw;rw[Y,if_pos J]
  have aF:(last.size:Int)<(n1:Int):=oMg
  clear Y J;go_enter Tryz.func284,Tryz.ntmps284
  go_wp2_with (go_at_call 299;refine(H1.out _ _ (pB HS.out) K1.out).mono ?_;rintro e w1 ⟨rfl,h2⟩;obtain⟨A2,n2,c2,q1,q2,q3,q4,m2⟩:=h2)
  have O:Mod (((((w1.setCell ⟨g,1,none⟩ (.bool true)).setCell ⟨z,0,none⟩ (.string jR)).setCell ⟨z,1,none⟩ (.int .u64 0)).setCell ⟨z,2,none⟩ (.bool false)).setCell ⟨z,3,none⟩ (.string jR)) w0 _:=zbk;simp only[Zb,Zc,Zd,b9]at O;refine bodyPost_ret (results_cell_row rfl _ _ z 71 _ (0,0) _ rfl (Mod.heap (m:=O)) I rfl (by rw[rO];rfl)) rfl ?_;exact⟨by rw[hE.out];rfl,by rw[hE.out];exact⟨A2,n2,c2,q1,q2,q3,q4,Mod.keep O⟩⟩
 ·have aF:¬(last.size:Int)<(n1:Int):=oMg
  have aQ:(n1:Int)<=(last.size:Int):=oMg
  obtain⟨t2,s2,af⟩:∃t2 s2,pt s1=(t2,s2):=⟨_,_,rfl⟩;obtain⟨U,s3,ai⟩:∃U s3,wu s2=(U,s3):=⟨_,_,rfl⟩;obtain⟨key,aa⟩:∃key:ByteArray,last.extract 0 n1++⟨t2.toArray⟩=key:=⟨_,rfl⟩
  have ae:(⟨(last.data.toList.take n1++t2).toArray⟩:ByteArray)=key:=by
   rw[<-aa];apply Xl;apply YY.1;simp
  have hE:Hid (Bw last s=match s3.1 with
   | []=>(⟨key,U,false,jR⟩,([],true))
   | gg::r=>if gg=1 then (⟨key,U,true,jR⟩,(r,s3.2))else (⟨key,U,false,⟨(pt (r,s3.2)).1.toArray⟩⟩,(pt (r,s3.2)).2)):=by
   show _=_;unfold Bw;rw[Y,if_neg J];simp only[af,ai,ae]
   first | done | rfl
  have H2:=zbj (fun(u:World)(E:ba)(hh:Sub E G)(I:Bd g s1 G E w0 u)=>uX g s1 G E hh u w0 I);have H3:=zbj (fun(u:World)(E:ba)(hh:Sub E G)(I:Bd g s2 G E w0 u)=>xi g s2 G E hh u w0 I);rw[af]at H2;rw[ai]at H3;have az:t2.length<=s1.1.length:=by have:=Gh s1.1;rw[show (qu s1.1).1=(pt s1).1 from rfl,af]at this;exact this
  have av:=zbj az;clear az;have ag:=zbj aa;have au:=zbj (decide_eq_false J);clear Y J af ai aa ae;go_enter Tryz.func284,Tryz.ntmps284
  go_wp2_with (go_at_call 299;refine(H1.out _ _ (pB HS.out) K1.out).mono ?_;rintro e w1 ⟨rfl,h2⟩;obtain⟨A2,n2,c2,q1,q2,q3,q4,m2⟩:=h2)
  go_wp2_with fail
  have aL:¬9223372036854775807<min n1 last.size+t2.length:=by have:=av.out;omega
  rw[au.out];refine eS 8 (fun _=>True) kRf trivial (fun B=>?_);simp only[Zl,List.length_cons,List.length_nil,Nat.reduceAdd];obtain⟨W,hW⟩:∃W,W=w1.drew:=⟨_,rfl⟩;have mW:Mod W w0 _:=hW▸Mod.drew (m:=m2);rw[<-hW];clear hW;refine Tk.go [(0,some 17),(1,some 18),(2,some 19),(3,some 20)] ?_
  repeat (
   refine Tk.one (v:=?_) rfl (Or.inl ⟨by rfl,?_⟩) B ?_ (fun _ _ _ h=>h);rotate_left 1
   ·(intro u I;(try dsimp only at I);go_simp;try with_reducible rfl)
   simp only[Act.put,Zb,Zc,Zd])
  refine Tk.stop (sX 4 (some 21) rfl rfl rfl fun K Z=>?_);go_simp
  refine(H2.out _ _ (pB HS.out) ⟨A2,n2,c2,q1,q2,q3,q4,mW⟩).mono ?_;rintro e w2 ⟨rfl,h3⟩;obtain⟨A3,aB,c3,p1,p2,p3,p4,m3⟩:=h3;refine Z.out (.string ⟨t2.toArray⟩) _ trivial (fun B=>?_);clear Z K;simp only[Act.put,Zb,Zc,Zd];refine Tk.go [(5,some 22)] ?_
  repeat (
   refine Tk.one (v:=?_) rfl (Or.inl ⟨by rfl,?_⟩) B ?_ (fun _ _ _ h=>h);rotate_left 1
   ·(intro u I;(try dsimp only at I);go_simp;try with_reducible rfl)
   simp only[Act.put,Zb,Zc,Zd])
  refine Tk.stop (sX 6 (some 23) rfl rfl rfl fun K Z=>?_);go_simp
  refine Z.out (ap z) _ trivial (fun B=>?_);clear Z K;simp only[Act.put,Zb,Zc,Zd];refine(sX 7 (some 24) rfl rfl rfl fun K Z=>?_);go_simp
  refine Z.out (ap z) _ trivial (fun B=>?_);clear Z K;simp only[Act.put,Zb,Zc,Zd];refine Aa none rfl rfl rfl fun K Z=>?_;go_simp
  refine Z.out undef _ ?_;clear Z K;simp only[Act.put];rw[ag.out]
  have m4:Mod (w2.setCell ⟨z,0,none⟩ (.string key)) w0 (aE g (.cells #[.slice A3 aB c3,.bool s2.2] 337 (0,0))*(sE z key 0 false jR*F)):=by
   have h:Mod (w2.setCell ⟨z,0,none⟩ (.string key)) w0 _:=zbk;simp only[Zb,Zc]at h;exact Mod.keep h
  clear m3 mW m2;generalize w2.setCell ⟨z,0,none⟩ (.string key)=w3 at *;go_wp2_with (go_at_call 299;refine(H3.out _ (sE z key 0 false jR*F) (pB HS.out) ⟨A3,aB,c3,p1,p2,p3,p4,m4⟩).mono ?_;rintro e w4 ⟨rfl,h4⟩;obtain⟨A4,n4,c4,r1,r2,r3,r4,m5⟩:=h4;refine Hid.out ?_)
  refine zbj ?_;obtain⟨b3,y⟩:=s3;simp only at r1 r4 m5 hE;clear H1 H2 H3 K1 ag av au p1 p2 p3 p4 q1 q2 q3 q4 m4
  cases b3 with
  | nil =>
    have h0:n4=0:=by simpa using r1.symm
    subst h0;go_wp2_with fail
    have O:Mod ((((((w4.setCell ⟨z,1,none⟩ (.int .u64 (U:Int))).setCell ⟨g,1,none⟩ (.bool true)).setCell ⟨z,0,none⟩ (.string key)).setCell ⟨z,1,none⟩ (.int .u64 (U:Int))).setCell ⟨z,2,none⟩ (.bool false)).setCell ⟨z,3,none⟩ (.string jR)) w0 _:=zbk;simp only[Zb,Zc,Zd,b9]at O;refine bodyPost_ret (results_cell_row rfl _ _ z 71 _ (0,0) _ rfl (Mod.heap (m:=O)) I rfl (by rw[rO];rfl)) rfl ?_;exact⟨by rw[hE.out];rfl,by rw[hE.out];exact⟨A4,0,c4,rfl,r2,r3,r4,Mod.keep O⟩⟩
  | cons gg rr =>
    have ah:0<n4:=by rw[<-r1];simp
    have aD:bk (aE g (.cells #[.slice A4 n4 c4,.bool y] 337 (0,0))*(sE z key 0 false jR*F)) A4 n4 (b7 (gg::rr)):=ct (pB (pB HS.out)) r4;obtain⟨ad,rfl,ay,_⟩:=cP m5 aD ah;obtain⟨b,o,sp⟩:=ad;simp only at ay;subst ay;have aO:bw F b o (.int .u8 (gg.toNat:Int)):=eL (ct HS.out r4) ah 0 rfl;have aM:(0:Int)<(n4:Int):=oMg
    have aN:(((n4:Int)==0)=false):=beq_eq_false_iff_ne.2 oMg
    have HT:Hid (∀(u:World)(E:ba),Bd g (gg::rr,y) G E w0 u->Calls Tryz.prog 301 #[ap g,.int .i64 1,.int .i64 0] u fun e w'=>e=.returned (.tuple #[])/\Bd g (rr,y) G E w0 w'):=fun u E I=>by
     have h:=ss g (gg::rr) y 0 1 (by simp) G E u w0 I;rw[show (y || !(decide ((0:Nat)=0)))=y by simp]at h;exact h
    have ak:=zbj (fun(u:World)(E:ba)(hh:Sub E G)(I:Bd g (rr,y) G E w0 u)=>uX g (rr,y) G E hh u w0 I);clear aD ah;by_cases M:gg=1
    ·have aJ:=zbj M
     have aH:(((gg.toNat:Int)==1)=true):=by rw[M];rfl
     have V:Hid (Bw last s=(⟨key,U,true,jR⟩,(rr,y))):=by show _=_;rw[hE.out];simp only[M,if_true]
     clear hE M aJ;go_wp2_with (go_at_call 301;refine(HT.out _ (sE z key U true jR*F) ⟨some ⟨b,o,none⟩,n4,c4,r1,r2,r3,r4,qB (by simp only[Zb,Zc,Zd,b9];ac_rfl)⟩).mono ?_;rintro e w5 ⟨rfl,h5⟩;obtain⟨A5,n5,c5,t1,aj,t3,t4,m6⟩:=h5;refine Hid.out ?_)
     refine zbj ?_;go_wp2_with fail
     have O:Mod ((((w5.setCell ⟨z,0,none⟩ (.string key)).setCell ⟨z,1,none⟩ (.int .u64 (U:Int))).setCell ⟨z,2,none⟩ (.bool true)).setCell ⟨z,3,none⟩ (.string jR)) w0 _:=zbk;simp only[Zb,Zc,Zd,b9]at O;refine bodyPost_ret (results_cell_row rfl _ _ z 71 _ (0,0) _ rfl (Mod.heap (m:=O)) I rfl (by rw[rO];rfl)) rfl ?_;exact⟨by rw[V.out];rfl,by rw[V.out];exact⟨A5,n5,c5,t1,aj,t3,t4,Mod.keep O⟩⟩
    ·have aG:gg.toNat≠1:=fun e=>M (UInt8.toNat_inj.1 e)
     have aH:(((gg.toNat:Int)==1)=false):=beq_eq_false_iff_ne.2 oMg;clear aG;have V:Hid (Bw last s=(⟨key,U,false,⟨(pt (rr,y)).1.toArray⟩⟩,(pt (rr,y)).2)):=by show _=_;rw[hE.out];simp only[M,if_false]
     clear hE M;go_wp2_with (go_at_call 301;refine(HT.out _ (sE z key U false jR*F) ⟨some ⟨b,o,none⟩,n4,c4,r1,r2,r3,r4,qB (by simp only[Zb,Zc,Zd,b9];ac_rfl)⟩).mono ?_;rintro e w5 ⟨rfl,h5⟩;obtain⟨A5,n5,c5,t1,aj,t3,t4,m6⟩:=h5;refine Hid.out ?_)
     refine zbj ?_;obtain⟨v6,s6,ax⟩:∃v6 s6,pt (rr,y)=(v6,s6):=⟨_,_,rfl⟩;rw[ax]at V ak;clear ax;go_wp2_with (go_at_call 300;refine(ak.out _ (sE z key U false jR*F) (pB HS.out) ⟨A5,n5,c5,t1,aj,t3,t4,m6⟩).mono ?_;rintro e w6 ⟨rfl,h6⟩;obtain⟨A6,n6,c6,u1,u2,u3,u4,m7⟩:=h6;refine Hid.out ?_)
     refine zbj ?_;go_wp2_with fail
     have O:Mod (((((w6.setCell ⟨z,3,none⟩ (.string ⟨v6.toArray⟩)).setCell ⟨z,0,none⟩ (.string key)).setCell ⟨z,1,none⟩ (.int .u64 (U:Int))).setCell ⟨z,2,none⟩ (.bool false)).setCell ⟨z,3,none⟩ (.string ⟨v6.toArray⟩)) w0 _:=zbk;simp only[Zb,Zc,Zd,b9]at O;refine bodyPost_ret (results_cell_row rfl _ _ z 71 _ (0,0) _ rfl (Mod.heap (m:=O)) I rfl (by rw[rO];rfl)) rfl ?_;exact⟨by rw[V.out];rfl,by rw[V.out];exact⟨A6,n6,c6,u1,u2,u3,u4,Mod.keep O⟩⟩
theorem y5 {l:List ao}{i:Nat}(h:i<l.length):l.drop i=l[i]::l.drop (i+1):=Ya h
theorem vH {l:List ao}{i:Nat}(h:i<l.length):kK jR l (i+1)=l[i].key:=by
 unfold kK;simp[h]
theorem N8 (p:Nat)(hp:p<256):bits .or .i64 0 (p:Int)=(p:Int):=by
 unfold bits;simp;rw[show (2:Int) ^ IntKind.i64.bits=18446744073709551616 from rfl,IntKind.wrap_i64];omega
theorem Fy (b o n c:Nat)(l:List ao)(hl:sk l)(hn:n=(cU l).length)(hc:n<=c)(w w0:World)(S:ba)(m:Mod w w0 S)(r:bk S (some ⟨b,o,none⟩) n (b7 (cU l))) :
 Calls Tryz.prog 252 #[.slice (some ⟨b,o,none⟩) n c] w fun e w'=>∃A' c',e=.returned (.tuple #[.slice A' l.length c',.int .i64 0])/\l.length<=c'/\Mod w' w0 (ar 71 4 (.slice A' l.length c') l.length (l.flatMap ao.cells)*S):=by
 obtain⟨e1,e2,e3,e4⟩:=FC hl;have ai:=sv l 0 ⟨#[]⟩ fun x hx=>hl.ok x hx;have ax:=qi l 0 0 ⟨#[]⟩;have aj:=hl.few;have HP:Hid (∀(V:Option Addr)(E:Nat)(u:World)(G:ba),Mod u w0 G->bp G V l.length l->Calls Tryz.prog 171 #[.slice V l.length E] u fun e w'=>∃A' c',e=.returned (.tuple #[.slice A' (cU l).length c',.int .i64 0])/\Mod w' w0 (ar 5 1 (.slice A' (cU l).length c') (cU l).length (b7 (cU l))*G)):=fun V E u G mu ru=>yN l.length E V l hl u w0 G mu ru
 have HQ:Hid (∀(V:Option Addr)(E:Nat)(u:World)(G:ba),Mod u w0 G->bk G V (cU l).length (b7 (cU l))->bk G (some ⟨b,o,none⟩) n (b7 (cU l))->Calls Tryz.prog 162 #[.slice V (cU l).length E,.slice (some ⟨b,o,none⟩) n c] u fun e w'=>e=.returned (.bool true)/\Mod w' w0 G):=fun V E u G mu r1 r2=>by
  have h:=xh V (some ⟨b,o,none⟩) (cU l).length n E c (cU l) (cU l) u w0 G mu r1 r2;rw[decide_eq_true rfl]at h;exact h
 obtain⟨I,af⟩:∃I,(mC 0 0 ⟨#[]⟩ l).length=I:=⟨_,rfl⟩;obtain⟨z,Y⟩:∃z,(kH 0 ⟨#[]⟩ l).length=z:=⟨_,rfl⟩;rw[af,Y]at e1;rw[af]at e3 ax;rw[Y]at e4 ai;have aK:n=z+2*I+2:=oMg
 have ra:bk S (some ⟨b,o,none⟩) z (b7 (kH 0 ⟨#[]⟩ l)):=by
  have h:=r.pre z oMg
  rwa [show (b7 (cU l)).take z=b7 (kH 0 ⟨#[]⟩ l)from by rw[<-e4];simp[b7]]at h
 have B:∀j,j<n->bw S b (o+j) (.int .u8 (((cU l).getD j 0).toNat:Int)):=fun j hj=>by
  refine eL r oMg j ?_;unfold b7;rw[Yc,Zw,Zg oMg];rfl
 have E:=B (z+2*I) oMg;have c2:=B (z+2*I+1) oMg;rw[show z+2*I=(cU l).length-2 by omega,e2]at E;rw[show z+2*I+1=(cU l).length-1 by omega,e3]at c2;rw[show (cU l).length-2=z+2*I by omega]at E;rw[show (cU l).length-1=z+2*I+1 by omega]at c2;obtain⟨q,hq⟩:∃q,z+2*I=q:=⟨_,rfl⟩;have av:n=q+2:=oMg
 rw[hq]at E c2;have HR:=zbj r;have aG:=zbj ra;have Hl:=zbj hl;have HN:=zbj (show (kH 0 ⟨#[]⟩ l).length=z from Y);have aL:=N8 I oMg;have aM:(q:Int)-2*(I:Int)=(z:Int):=oMg
 have aR:(0:Int)<=(z:Int):=oMg
 have aT:(z:Int)<=(c:Int):=oMg
 have Hq:=zbj hq
 have HE:Hid (∀(g i:Nat)(hi:i<l.length)(last:ByteArray)(u:World)(G:ba),Sub G S->last=kK jR l i->Bd g (kH i last (l.drop i),false) S G w0 u->Calls Tryz.prog 284 #[ap g,.string last] u fun e w'=>e=.returned (NX l[i])/\Bd g (kH (i+1) l[i].key (l.drop (i+1)),false) S G w0 w'):=fun g i hi last u G hG ak hu=>by
  have aN:last.size<=1000000000:=by
   cases i with
   | zero=>rw[ak];exact Zv _
   | succ i =>
     rw[ak,vH oMg];have:=(hl.ok _ (Zq (show i<l.length by omega))).size;omega
  have h:=CN g last aN _ S G hG u w0 hu;have e:kH i last (l.drop i)=tK i last l[i]++kH (i+1) l[i].key (l.drop (i+1)):=by rw[y5 hi];rfl
  rw[e,Ki (hl.ok _ (Zq hi))]at h;exact h
 have HZ:Hid (∀(i:Nat)(hi:i<l.length)(last:ByteArray),0<(kH i last (l.drop i)).length):=fun i hi last=>by
  rw[y5 hi];exact ZO.2 (MM _ _ _ _)
 clear e1 e2 e3 e4 B r ra hl af Y hn;rw[av]at HR HQ hc;subst av;go_enter Tryz.func252,Tryz.ntmps252
 go_wp2_with fail
 go_quiet (fail)
 go_wp2_with fail
 have m5:Mod ((w.drewN nq).alloc (.cells #[.slice (some ⟨b,o,none⟩) z z,.bool false] 337)) w0 (aE w.heap.size (.cells #[.slice (some ⟨b,o,none⟩) z z,.bool false] 337 (0,0))*S):=Mod.alloc (hn:=⟨rfl⟩) (m:=Mod.drewN (m:=m) nq) _;have m6:=ey (e:=71) (size:=4) m5;generalize hg:w.heap.size=g at *;clear aK E c2 aL aM hg m5 hq;obtain⟨L,hL⟩:∃L,l.length=L:=⟨_,rfl⟩;have Z:=zbj hL;rw[hL]at aj ai ax;clear hL;go_loopg [2,6] L (fun gk v2 v6 wr=>∃(i:Nat)(O:Option Addr)(U:Nat)(last:ByteArray),i<=L/\gk=L-i/\v2=.slice O i U/\v6=.string last/\i<=U/\Hid (last=kK jR l i)/\Bd g (kH i last (l.drop i),false) S (ar 71 4 (.slice O i U) i ((l.take i).flatMap ao.cells)*S) w0 wr)
 case atStart=>exact⟨0,none,0,jR,Zv _,rfl,rfl,rfl,Zm _,rfl,⟨_,z,z,HN.out,Zm _,oMg,aG.out,Mod.to (m:=m6) (by simp only[List.take_zero,Yv];ac_rfl)⟩⟩
 case round =>
  obtain⟨i,O,U,last,hi,aS,rfl,rfl,aJ,aD,A2,n2,c2,q1,q2,q3,q4,m7⟩:=hrel;by_cases au:i<L
  ·have aP:(i:Int)<=64:=oMg
   have M:i<l.length:=by rw[Z.out];exact au
   have ae:0<n2:=by rw[<-q1];exact HZ.out i M last
   have aQ:(0:Int)<(n2:Int):=oMg
   have ah:=zbj (HE.out g i M last);have aF:Hid (l[i].key=kK jR l (i+1)):=(vH M).symm
   have aB:Hid ((l.take (i+1)).flatMap ao.cells=(l.take i).flatMap ao.cells++l[i].cells):=by
    show _=_;rw[Zx M,Z4];simp
   generalize l[i]=x at *;unfold NX at ah;clear M ae;go_wp2_with (go_at_call 284;refine(ah.out _ (ar 71 4 (.slice O i U) i ((l.take i).flatMap ao.cells)*S) zbk aD.out ⟨A2,n2,c2,q1,q2,q3,q4,m7⟩).mono ?_;rintro e w2 ⟨rfl,A3,n3,c3,p1,p2,p3,p4,m8⟩)
   obtain⟨g2,aa⟩:∃g2,w2.heap.size=g2:=⟨_,rfl⟩;have m9:Mod (w2.alloc (.cells #[.string x.key,.int .u64 (x.seq:Int),.bool x.gone,.string x.value] 71)) w0 (aE g2 (.cells #[.string x.key,.int .u64 (x.seq:Int),.bool x.gone,.string x.value] 71 (0,0))*(aE g (.cells #[.slice A3 n3 c3,.bool false] 337 (0,0))*(ar 71 4 (.slice O i U) i ((l.take i).flatMap ao.cells)*S))):=Mod.alloc (hn:=⟨aa⟩) (m:=m8) _;rw[aa];generalize w2.alloc (.cells #[.string x.key,.int .u64 (x.seq:Int),.bool x.gone,.string x.value] 71)=w3 at *;clear m8 aa m7;refine eS 8 (fun u=>u.cell? ⟨g2,0,none⟩=some (.string x.key)/\u.cell? ⟨g2,1,none⟩=some (.int .u64 (x.seq:Int))/\u.cell? ⟨g2,2,none⟩=some (.bool x.gone)/\u.cell? ⟨g2,3,none⟩=some (.string x.value)) kRf ⟨Za,Za,Za,Za⟩ (fun y=>?_);simp only[Zl,List.length_cons,List.length_nil,Nat.reduceAdd];obtain⟨W,hW⟩:∃W,W=w3.drew:=⟨_,rfl⟩;have mW:Mod W w0 _:=hW▸Mod.drew (m:=m9);rw[<-hW]at y ⊢;clear hW m9;refine Tk.go [(0,some 59),(1,some 60),(4,some 63),(5,some 64),(6,some 65)] ?_
   repeat (
    refine Tk.one (v:=?_) rfl (Or.inl ⟨by rfl,?_⟩) y ?_ (fun _ _ _ h=>h);rotate_left 1
    ·(intro u hu;(try dsimp only at hu);obtain⟨aU,aV,aW,aX⟩:=hu;go_simp;try with_reducible rfl)
    simp only[Act.put,Zb,Zc,Zd])
   refine Tk.stop (sX 2 (some 61) rfl rfl rfl fun K J=>?_);refine ng (size:=4) rfl rfl rfl (by decide) ?_;have ay:=Mod.alloc (m:=mW) (.cells #[.string x.key,.int .u64 (x.seq:Int),.bool x.gone,.string x.value] 71) (n:=W.heap.size) (hn:=⟨rfl⟩);refine J.out (.slice (some ⟨W.heap.size,0,none⟩) 1 1) _ ⟨Za,Za,Za,Za⟩ (fun y=>?_);clear J K;simp only[Act.put,Zb,Zc,Zd];refine sX 3 (some 62) rfl rfl rfl fun K J=>?_;refine mz (t:=59) rfl (Mod.pull (m:=ay) (ar 71 4 (.slice O i U) i ((l.take i).flatMap ao.cells))) rfl (A:=⟨W.heap.size,0,none⟩) (k:=1) (c:=1) (news:=x.cells) rfl (ce rfl rfl) (by decide) (fun v hv=>pk [x] v (by simpa using hv)) (by unfold maxLen;omega) oMg ?_;intro A4 c4 w4 ag;refine J.out (.slice A4 (i+1) c4) _ ⟨Za,Za,Za,Za⟩ (fun y=>?_);clear J K;simp only[Act.put,Zb,Zc,Zd];refine sX 7 (some 2) rfl rfl rfl fun K J=>?_;go_simp
   refine J.out (.slice A4 (i+1) c4) _ y (fun y=>?_);clear J K;simp only[Act.put,Zb,Zc,Zd];refine Aa (some 6) rfl rfl rfl fun K J=>?_;go_simp
   refine J.out (.string x.key) _ ?_;clear J K;simp only[Act.put,Zb,Zc,Zd]
   have aH:i+1<=c4:=by
    obtain⟨A',c',e,h⟩:=nP ag;injection e with _ _ e;omega
   have aO:Mod w4 w0 (aE g (.cells #[.slice A3 n3 c3,.bool false] 337 (0,0))*(ar 71 4 (.slice A4 (i+1) c4) (i+1) ((l.take i).flatMap ao.cells++x.cells)*S)):=Mod.keep ag;clear y ag ay mW;go_wp2_with fail
   go_roundg (L-(i+1))
   case measure=>omega
   case rel=>exact⟨i+1,A4,c4,x.key,au,rfl,rfl,rfl,aH,aF,A3,n3,c3,p1,p2,p3,p4,by rw[aB.out];exact aO⟩
  ·have aI:i=L:=oMg
   subst aI;have hd:l.drop i=[]:=Yj (by rw[Z.out];omega);rw[hd]at q1;have ae:n2=0:=by rw[<-q1];rfl
   subst ae;have ht:l.take i=l:=Zn (by rw[Z.out];omega);rw[ht]at m7;have rE:bp (ar 71 4 (.slice O i U) i (l.flatMap ao.cells)) O i l:=⟨Z.out,fh (by decide)⟩;have az:=zbj rE;rw[Z.out]at HP;clear hd ht q1 rE;go_wp2_with (go_at_call 171;refine(HP.out O U _ _ m7 (az.out.lift zbk)).mono ?_;rintro e w3 ⟨A5,c5,rfl,m8⟩;refine Hid.out ?_)
   refine zbj ?_;go_wp2_with (go_at_call 162;refine(HQ.out A5 c5 _ _ m8 zbk (ct zbk HR.out)).mono ?_;rintro e w4 ⟨rfl,m9⟩)
   go_ret2
   exact⟨O,U,by rw[Z.out];rfl,by rw[Z.out];exact aJ,by rw[Z.out];exact Mod.keep m9⟩
theorem Hu (n c:Nat)(A:Option Addr)(l:List ao)(ai:0<l.length)(ak:∀x∈l,fS x)(V:fc l)(aI:n<=100000)(w w0:World)(S:ba)(m:Mod w w0 S)(r:bp S A n l) :
 Calls Tryz.prog 169 #[.slice A n c] w fun e O=>e=.returned (.bool true)/\Mod O w0 S:=by
 have R:=zbj r;have aH:(0:Int)<(n:Int):=by have:=r.len;omega
 have av:=zbj ak;have aa:=zbj V;clear r ak V;go_enter Tryz.func169,Tryz.ntmps169
 go_wp2_with fail
 go_loopg [7] n (fun gk vi wr=>∃i:Nat,i<=n/\gk=n-i/\vi=.int .i64 (i:Int)/\Mod wr w0 S)
 case atStart=>exact⟨0,Zv _,rfl,rfl,m⟩
 case round =>
  obtain⟨i,hi,aG,rfl,m1⟩:=hrel;by_cases ah:i<n
  ·have ae:(i:Int)<(n:Int):=oMg
   have U:i<l.length:=by rw[R.out.len];exact ah
   obtain⟨b,o,rfl⟩:=gw m1 R.out ah;obtain⟨x0,x1,x2,x3⟩:=jc R.out U;have K:=av.out _ (Zq U)
   cases i with
   | zero =>
     generalize l[0]=y at *;clear U ai
     cases M:y.gone with
     | true =>
       have hv:decide ((256:Int)<(y.value.size:Int))=false:=decide_eq_false (by have:=K.value;omega)
       have aB:y.value.toList=[]:=by
        rw[ByteArray.toList_eq];exact Zo (by rw[Array.length_toList];exact K.gone M)
       have HK:Hid (∀(u:World)(G:ba),Mod u w0 G->Calls Tryz.prog 62 #[.string y.key] u fun e O=>e=.returned (.bool true)/\Mod O w0 G):=fun u G Y=>by
        have h:=fi y.key u w0 G Y;rw[K.key]at h;exact h
       clear K;rw[M]at x2;clear M;go_wp2_with fail
       obtain⟨I,B,E⟩:∃I,I=_/\Mod (wr.alloc (.cells #[.string y.key,.int .u64 (y.seq:Int),.bool true,.string y.value] 71)) w0 I:=⟨_,rfl,Mod.alloc (m:=m1) _⟩;have h2:jq I wr.heap.size (.cells #[.string y.key,.int .u64 (y.seq:Int),.bool true,.string y.value] 71 (0,0)):=by rw[B];infer_instance
       have J:=zbj B;clear B;have:=jO.some E;refine dy E kRf kRf ?_
       repeat (go_big_quiet_step ((go_at_call 62;refine cW (HK.out _ _ ?_);exact zbk)))
       refine wpQuiet_nil ?_;rintro w3 ⟨s,rfl⟩;have m3:=Mod.to (m:=s.mod) J.out;clear E J this h2;generalize s.world=w3 at *;go_wp2_with fail
       go_roundg (n-(0+1))
       case measure=>omega
       case rel=>exact⟨0+1,oMg,rfl,by go_num,Mod.keep m3⟩
     | false =>
       have hv:decide ((256:Int)<(y.value.size:Int))=false:=decide_eq_false (by have:=K.value;omega)
       have HK:Hid (∀(u:World)(G:ba),Mod u w0 G->Calls Tryz.prog 62 #[.string y.key] u fun e O=>e=.returned (.bool true)/\Mod O w0 G):=fun u G Y=>by
        have h:=fi y.key u w0 G Y;rw[K.key]at h;exact h
       clear K;rw[M]at x2;clear M;go_wp2_with fail
       obtain⟨I,B,E⟩:∃I,I=_/\Mod (wr.alloc (.cells #[.string y.key,.int .u64 (y.seq:Int),.bool false,.string y.value] 71)) w0 I:=⟨_,rfl,Mod.alloc (m:=m1) _⟩;have h2:jq I wr.heap.size (.cells #[.string y.key,.int .u64 (y.seq:Int),.bool false,.string y.value] 71 (0,0)):=by rw[B];infer_instance
       have J:=zbj B;clear B;have:=jO.some E;refine dy E kRf kRf ?_
       repeat (go_big_quiet_step ((go_at_call 62;refine cW (HK.out _ _ ?_);exact zbk)))
       refine wpQuiet_nil ?_;rintro w3 ⟨s,rfl⟩;have m3:=Mod.to (m:=s.mod) J.out;clear E J this h2;generalize s.world=w3 at *;go_wp2_with fail
       go_roundg (n-(0+1))
       case measure=>omega
       case rel=>exact⟨0+1,oMg,rfl,by go_num,Mod.keep m3⟩
   | succ q =>
     have au:q<l.length:=oMg
     have Z:=Z0.1 aa.out q (q+1) oMg U oMg;obtain⟨z0,z1,z2,_⟩:=jc R.out (k:=q) au;have aJ:(q:Int)<(n:Int):=oMg
     have af:((q+1:Nat):Int)=(q:Int)+1:=oMg
     have aF:(q:Int)+1-1=(q:Int):=oMg
     have aD:(0:Int)<(q:Int)+1:=oMg
     rw[af];generalize l[q+1]=y at *;generalize l[q]=z at *;clear U au ai af ae;have ae:(q:Int)+1<(n:Int):=oMg
     cases M:y.gone with
     | true =>
       have hv:decide ((256:Int)<(y.value.size:Int))=false:=decide_eq_false (by have:=K.value;omega)
       have aB:y.value.toList=[]:=by
        rw[ByteArray.toList_eq];exact Zo (by rw[Array.length_toList];exact K.gone M)
       have HK:Hid (∀(u:World)(G:ba),Mod u w0 G->Calls Tryz.prog 62 #[.string y.key] u fun e O=>e=.returned (.bool true)/\Mod O w0 G):=fun u G Y=>by
        have h:=fi y.key u w0 G Y;rw[K.key]at h;exact h
       have aj:oh z y<0:=(qW z y).2 Z;have ag:¬(0<=oh z y):=oMg
       have HC:Hid (∀(u:World)(G:ba),Mod u w0 G->Calls Tryz.prog 129 #[.agg #[.string z.key,.int .u64 (z.seq:Int),.bool z.gone],.agg #[.string y.key,.int .u64 (y.seq:Int),.bool true]] u fun e O=>e=.returned (.int .i64 (oh z y))/\Mod O w0 G):=fun u G Y=>by
        have h:=nN z y u w0 G Y;rw[M]at h;exact h
       generalize oh z y=cc at *;clear Z;clear K;rw[M]at x2;clear M;go_wp2_with fail
       obtain⟨I,B,E⟩:∃I,I=_/\Mod (wr.alloc (.cells #[.string y.key,.int .u64 (y.seq:Int),.bool true,.string y.value] 71)) w0 I:=⟨_,rfl,Mod.alloc (m:=m1) _⟩;have h2:jq I wr.heap.size (.cells #[.string y.key,.int .u64 (y.seq:Int),.bool true,.string y.value] 71 (0,0)):=by rw[B];infer_instance
       have ax:bw I b (o+q*4) (.string z.key):=by rw[B];infer_instance
       have ay:bw I b (o+q*4+1) (.int .u64 (z.seq:Int)):=by rw[B];infer_instance
       have az:bw I b (o+q*4+2) (.bool z.gone):=by rw[B];infer_instance
       have J:=zbj B;clear B;have:=jO.some E;refine dy E kRf kRf ?_
       repeat (go_big_quiet_step (first | (go_at_call 62;refine cW (HK.out _ _ ?_);exact zbk) | (go_at_call 129;refine cW (HC.out _ _ ?_);exact zbk)))
       refine wpQuiet_nil ?_;rintro w3 ⟨s,rfl⟩;have m3:=Mod.to (m:=s.mod) J.out;clear E J this h2;generalize s.world=w3 at *;go_wp2_with fail
       go_roundg (n-((q+1)+1))
       case measure=>omega
       case rel=>exact⟨q+1+1,oMg,rfl,by go_num,Mod.keep m3⟩
     | false =>
       have hv:decide ((256:Int)<(y.value.size:Int))=false:=decide_eq_false (by have:=K.value;omega)
       have HK:Hid (∀(u:World)(G:ba),Mod u w0 G->Calls Tryz.prog 62 #[.string y.key] u fun e O=>e=.returned (.bool true)/\Mod O w0 G):=fun u G Y=>by
        have h:=fi y.key u w0 G Y;rw[K.key]at h;exact h
       have aj:oh z y<0:=(qW z y).2 Z;have ag:¬(0<=oh z y):=oMg
       have HC:Hid (∀(u:World)(G:ba),Mod u w0 G->Calls Tryz.prog 129 #[.agg #[.string z.key,.int .u64 (z.seq:Int),.bool z.gone],.agg #[.string y.key,.int .u64 (y.seq:Int),.bool false]] u fun e O=>e=.returned (.int .i64 (oh z y))/\Mod O w0 G):=fun u G Y=>by
        have h:=nN z y u w0 G Y;rw[M]at h;exact h
       generalize oh z y=cc at *;clear Z;clear K;rw[M]at x2;clear M;go_wp2_with fail
       obtain⟨I,B,E⟩:∃I,I=_/\Mod (wr.alloc (.cells #[.string y.key,.int .u64 (y.seq:Int),.bool false,.string y.value] 71)) w0 I:=⟨_,rfl,Mod.alloc (m:=m1) _⟩;have h2:jq I wr.heap.size (.cells #[.string y.key,.int .u64 (y.seq:Int),.bool false,.string y.value] 71 (0,0)):=by rw[B];infer_instance
       have ax:bw I b (o+q*4) (.string z.key):=by rw[B];infer_instance
       have ay:bw I b (o+q*4+1) (.int .u64 (z.seq:Int)):=by rw[B];infer_instance
       have az:bw I b (o+q*4+2) (.bool z.gone):=by rw[B];infer_instance
       have J:=zbj B;clear B;have:=jO.some E;refine dy E kRf kRf ?_
       repeat (go_big_quiet_step (first | (go_at_call 62;refine cW (HK.out _ _ ?_);exact zbk) | (go_at_call 129;refine cW (HC.out _ _ ?_);exact zbk)))
       refine wpQuiet_nil ?_;rintro w3 ⟨s,rfl⟩;have m3:=Mod.to (m:=s.mod) J.out;clear E J this h2;generalize s.world=w3 at *;go_wp2_with fail
       go_roundg (n-((q+1)+1))
       case measure=>omega
       case rel=>exact⟨q+1+1,oMg,rfl,by go_num,Mod.keep m3⟩
  ·have ae:¬(i:Int)<(n:Int):=oMg
   go_wp2_with fail
   go_ret
   refine⟨?_,m1⟩;show Ending.returned (.bool (decide (0<n)))=_;rw[decide_eq_true oMg]
end Go.Proofs.YtdfppjcaelghhaaGreatDoor
