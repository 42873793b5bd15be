/- Plain lemmas and contracts; the conditions are in each. -/
import Derived.Test.YtdfppjcaelghhaaGreatDoorAl
namespace Go.Sl
def sA (n:BitVec 32):BitVec 32:=(n >>> 1) ^^^ (if n.getLsbD 0 then 0x82f63b78#32 else 0#32)
def nV:Nat->BitVec 32->BitVec 32
 | 0,n=>n
 | k+1,n=>nV k (sA n)
def qX (i:Nat):BitVec 32:=nV 8 (BitVec.ofNat 32 i)
def qY (n:BitVec 32)(c:UInt8):BitVec 32:=(n >>> 8) ^^^ qX (n.toNat%256 ^^^ c.toNat)
def kO (s:BitVec 32)(b:List UInt8):BitVec 32 := ~~~ (b.foldl qY (~~~ s))
def lH (kind:UInt8)(b:List UInt8):BitVec 32:=kO (kO 0#32 [kind]) b
def wide (c:UInt8):BitVec 32:=BitVec.ofNat 32 c.toNat
def cg (p:Nat):Nat:=if 128-p%128<=7 then 128-p%128 else 0
theorem kP (p:Nat):cg p<=7:=by unfold cg;split <;> omega
theorem sZ (p:Nat):8<=128-(p+cg p)%128/\(p+cg p)%128<128:=by unfold cg;split <;> omega
def eA (n:Nat):List UInt8:=List.replicate n 0
def ff (n:Nat):List UInt8:=[UInt8.ofNat (n / 16777216),UInt8.ofNat (n / 65536),UInt8.ofNat (n / 256),UInt8.ofNat n]
def sM (a b c d:UInt8):Nat:=a.toNat*16777216+b.toNat*65536+c.toNat*256+d.toNat
theorem zr (n:Nat)(h:n<4294967296):sM (UInt8.ofNat (n / 16777216)) (UInt8.ofNat (n / 65536)) (UInt8.ofNat (n / 256)) (UInt8.ofNat n)=n:=by
 unfold sM;simp only[UInt8.toNat_ofNat'];omega
def tR (kind:UInt8)(p:List UInt8):List UInt8:=ff (lH kind p).toNat++[UInt8.ofNat (p.length / 256),UInt8.ofNat p.length,kind]
theorem vB (kind:UInt8)(p:List UInt8):(tR kind p).length=7:=rfl
def oF (kind:UInt8)(p:List UInt8):List UInt8:=tR kind p++p
theorem gd (kind:UInt8)(p:List UInt8):(oF kind p).length=7+p.length:=by simp[oF,vB]
def gh (p:Nat)(r:List UInt8):Nat:=min r.length (128-(p+cg p)%128-7)
theorem oM (p:Nat)(r:List UInt8):gh p r<=r.length:=Xq _ _
theorem gQ (p:Nat)(r:List UInt8):gh p r<=121:=by have:=sZ p;unfold gh;omega
theorem qr (p:Nat)(r:List UInt8)(h:0<r.length):0<gh p r:=by have:=sZ p;unfold gh;omega
def ke (first whole:Bool):UInt8:=if whole then (if first then 1 else 4)else (if first then 2 else 3)
def fz (p:Nat)(first:Bool)(r:List UInt8):List UInt8 :=
 eA (cg p)++(oF (ke first (decide (gh p r=r.length))) (r.take (gh p r)) ++
  (if _h:gh p r=r.length then []else fz (p+cg p+7+gh p r) false (r.drop (gh p r))))
termination_by r.length
decreasing_by
 have:=oM p r
 have y:0<r.length:=by
  rcases YD r.length with y | y
  ·omega
  ·exact y
 have:=qr p r y;simp only[ZF];omega
def partAt (b:List UInt8)(p:Nat):Option (UInt8×List UInt8×Nat) :=
 match b.drop p with
 | a0::a1::a2::a3::l1::l0::kind::rest =>
   if (128-(p+7)%128<l1.toNat*256+l0.toNat/\0<l1.toNat*256+l0.toNat)\/rest.length<l1.toNat*256+l0.toNat\/(lH kind (rest.take (l1.toNat*256+l0.toNat))).toNat≠sM a0 a1 a2 a3 then none
   else some (kind,rest.take (l1.toNat*256+l0.toNat),p+7+(l1.toNat*256+l0.toNat))
 | _=>none
theorem Kk {b:List UInt8}{p:Nat}{q:UInt8×List UInt8×Nat}(h:partAt b p=some q):p+7<=q.2.2/\q.2.2<=b.length:=by
 unfold partAt at h
 split at h
 ·rename_i a0 a1 a2 a3 l1 l0 kind rest hd
  split at h
  ·cases h
  ·rename_i hc
   injection h with h;subst h;have y:=congrArg List.length hd;simp only[ZF,List.length_cons]at y;simp only[not_or]at hc;exact⟨zbc _ _,by show p+7+_≤_;omega⟩
 ·cases h
def mK (begun:Bool)(kind:UInt8):Bool:=if begun then (kind==3||kind==4)else (kind==1||kind==2)
def wH (kind:UInt8):Bool:=kind==2||kind==3
def gC (b:List UInt8)(p:Nat)(begun:Bool)(y:List UInt8)(last:Nat):List (List UInt8)×Nat :=
 match _h:partAt b (p+cg p)with
 | none=>([],last)
 | some q =>
   if mK begun q.1 then
    if wH q.1 then gC b q.2.2 true (y++q.2.1) last
    else ((y++q.2.1)::(gC b q.2.2 false [] q.2.2).1,(gC b q.2.2 false [] q.2.2).2)
   else ([],last)
termination_by b.length-p
decreasing_by
 all_goals (have:=Kk _h;omega)
def j3 (b:List UInt8):List (List UInt8)×Nat:=gC b 0 false [] 0
theorem tZ {b:List UInt8}{p:Nat}{begun:Bool}{y:List UInt8}{last:Nat}(h:partAt b (p+cg p)=none):gC b p begun y last=([],last):=by
 rw[gC]
 split
 ·rfl
 ·rename_i q hq;rw[h]at hq;cases hq
theorem Ad {b:List UInt8}{p:Nat}{begun:Bool}{y:List UInt8}{last:Nat}{q:UInt8×List UInt8×Nat}(h:partAt b (p+cg p)=some q)(z:mK begun q.1=false):gC b p begun y last=([],last):=by
 rw[gC]
 split
 ·rfl
 ·rename_i q' hq;rw[h]at hq;cases hq;rw[z];rfl
theorem xY {b:List UInt8}{p:Nat}{begun:Bool}{y:List UInt8}{last:Nat}{q:UInt8×List UInt8×Nat}(h:partAt b (p+cg p)=some q)(B:mK begun q.1=true)(z:wH q.1=true) :
 gC b p begun y last=gC b q.2.2 true (y++q.2.1) last:=by
 rw[gC]
 split
 ·rename_i hq;rw[h]at hq;cases hq
 ·rename_i q' hq;rw[h]at hq;cases hq;rw[B,z];rfl
theorem pv {b:List UInt8}{p:Nat}{begun:Bool}{y:List UInt8}{last:Nat}{q:UInt8×List UInt8×Nat}(h:partAt b (p+cg p)=some q)(B:mK begun q.1=true)(z:wH q.1=false) :
 gC b p begun y last=((y++q.2.1)::(gC b q.2.2 false [] q.2.2).1,(gC b q.2.2 false [] q.2.2).2):=by
 rw[gC]
 split
 ·rename_i hq;rw[h]at hq;cases hq
 ·rename_i q' hq;rw[h]at hq;cases hq;rw[B,z];rfl
theorem xU (a c:List UInt8)(kind:UInt8)(p:List UInt8)(z:p.length<=121)(B:p.length<=128-(a.length+7)%128\/p.length=0):partAt (a++(oF kind p++c)) a.length=some (kind,p,a.length+7+p.length):=by
 have y:(UInt8.ofNat (p.length / 256)).toNat*256+(UInt8.ofNat p.length).toNat=p.length:=by
  simp only[UInt8.toNat_ofNat'];omega
 have e:(a++(oF kind p++c)).drop a.length=UInt8.ofNat ((lH kind p).toNat / 16777216)::UInt8.ofNat ((lH kind p).toNat / 65536)::UInt8.ofNat ((lH kind p).toNat / 256)::UInt8.ofNat (lH kind p).toNat::UInt8.ofNat (p.length / 256)::UInt8.ofNat p.length::kind::(p++c):=by
  rw[za1];simp[oF,tR,ff]
 unfold partAt;rw[e];simp only[y,XC,zr _ (lH kind p).isLt];rw[if_neg];simp only[not_or,Ze];exact⟨oMg,oMg,by simp⟩
theorem P2 (a t c:List UInt8)(kind:UInt8)(p:List UInt8)(J:p.length<=121)(ht:t++c=oF kind p)(E:c≠[]):partAt (a++t) a.length=none:=by
 have y:t.length<7+p.length:=by
  have:=congrArg List.length ht;rw[gd,Ze]at this;have:0<c.length:=ZO.2 E;omega
 unfold partAt;rw[za1]
 split
 ·rename_i a0 a1 a2 a3 l1 l0 k rest
  have e:a0::a1::a2::a3::l1::l0::k::(rest++c)=UInt8.ofNat ((lH kind p).toNat / 16777216)::UInt8.ofNat ((lH kind p).toNat / 65536)::UInt8.ofNat ((lH kind p).toNat / 256)::UInt8.ofNat (lH kind p).toNat::UInt8.ofNat (p.length / 256)::UInt8.ofNat p.length::kind::p:=by
   simpa [oF,tR,ff]using ht
  simp only[zbf]at e;obtain⟨_,_,_,_,B,z,_,I⟩:=e
  have K:l1.toNat*256+l0.toNat=p.length:=by
   rw[B,z];simp only[UInt8.toNat_ofNat'];omega
  simp only[List.length_cons]at y;rw[if_pos (.inr (.inl oMg))]
 ·rfl
theorem uu (first whole:Bool):mK (!first) (ke first whole)=true:=by cases first <;> cases whole <;> decide
theorem wI (first whole:Bool):wH (ke first whole) = !whole:=by cases first <;> cases whole <;> decide
theorem pW (p:Nat)(first:Bool)(r:List UInt8):fz p first r=eA (cg p)++(oF (ke first (decide (gh p r=r.length))) (r.take (gh p r)) ++
 (if gh p r=r.length then []else fz (p+cg p+7+gh p r) false (r.drop (gh p r)))):=by
 rw[fz];split <;> rfl
theorem jH (p:Nat)(r:List UInt8):(r.take (gh p r)).length=gh p r:=by rw[Zt];exact YJ (oM p r)
theorem F6 (p:Nat)(r:List UInt8):gh p r<=128-(p+cg p+7)%128\/gh p r=0:=by
 have:=sZ p;unfold gh;omega
theorem By (n:Nat):∀(a c:List UInt8)(first:Bool)(r y:List UInt8)(last:Nat),r.length<=n ->
 gC (a++(fz a.length first r++c)) a.length (!first) y last =
  ((y++r)::(gC (a++(fz a.length first r++c)) (a.length+(fz a.length first r).length) false [] (a.length+(fz a.length first r).length)).1,
    (gC (a++(fz a.length first r++c)) (a.length+(fz a.length first r).length) false [] (a.length+(fz a.length first r).length)).2):=by
 induction n with
 | zero =>
   intro a c first r y last hn;have hr:r=[]:=Zo oMg;subst hr;have B:gh a.length []=0:=by simp[gh]
   have K:fz a.length first []=eA (cg a.length)++oF (ke first true) []:=by rw[pW,B];simp
   have hp:=xU (a++eA (cg a.length)) c (ke first true) [] (by simp) (.inr rfl);have O:a++eA (cg a.length)++(oF (ke first true) []++c)=a++(fz a.length first []++c):=by rw[K];simp
   have U:(a++eA (cg a.length)).length=a.length+cg a.length:=by simp[eA]
   rw[O,U]at hp;rw[pv hp (uu first true) (by rw[wI];rfl)];have:a.length+cg a.length+7+([]:List UInt8).length=a.length+(fz a.length first []).length:=by rw[K];simp[eA,gd];omega
   simp only[this]
 | succ n ih =>
   intro a c first r y last hn
   have hp:=xU (a++eA (cg a.length)) ((if gh a.length r=r.length then []else fz (a.length+cg a.length+7+gh a.length r) false (r.drop (gh a.length r)))++c) (ke first (decide (gh a.length r=r.length))) (r.take (gh a.length r)) (by rw[jH];exact gQ _ _) (by
    rw[jH];simp only[eA,Ze,Yh];exact F6 _ _)
   have O:a++eA (cg a.length)++(oF (ke first (decide (gh a.length r=r.length))) (r.take (gh a.length r))++((if gh a.length r=r.length then []else fz (a.length+cg a.length+7+gh a.length r) false (r.drop (gh a.length r)))++c))=a++(fz a.length first r++c):=by
    conv=>rhs;rw[pW]
    simp only[Zr]
   have U:(a++eA (cg a.length)).length=a.length+cg a.length:=by simp[eA]
   rw[O,U,jH]at hp;by_cases B:gh a.length r=r.length
   ·have ae:(fz a.length first r).length=cg a.length+7+gh a.length r:=by
     rw[pW,if_pos B];simp[eA,gd,oM];omega
    rw[pv hp (uu _ _) (by rw[wI,decide_eq_true B];rfl)];have Y:a.length+cg a.length+7+gh a.length r=a.length+(fz a.length first r).length:=oMg
    have Z:r.take (gh a.length r)=r:=by rw[B];exact Xc
    simp only[Y,Z]
   ·rw[xY hp (uu _ _) (by rw[wI,decide_eq_false B];rfl)]
    have J:0<r.length:=by
     rcases YD r.length with V | V
     ·have:=oM a.length r;omega
     ·exact V
    have aa:=qr a.length r J;have I:=oM a.length r;have z:=ih (a++(eA (cg a.length)++oF (ke first false) (r.take (gh a.length r)))) c false (r.drop (gh a.length r)) (y++r.take (gh a.length r)) last (by simp only[ZF];omega)
    have M:(a++(eA (cg a.length)++oF (ke first false) (r.take (gh a.length r)))).length=a.length+cg a.length+7+gh a.length r:=by
     simp[eA,gd,I];omega
    have K:fz a.length first r=eA (cg a.length)++(oF (ke first false) (r.take (gh a.length r))++fz (a.length+cg a.length+7+gh a.length r) false (r.drop (gh a.length r))):=by
     rw[pW,if_neg B,decide_eq_false B]
    rw[M]at z;have hb:a++(eA (cg a.length)++oF (ke first false) (r.take (gh a.length r)))++(fz (a.length+cg a.length+7+gh a.length r) false (r.drop (gh a.length r))++c)=a++(fz a.length first r++c):=by rw[K];simp only[Zr]
    rw[hb]at z;simp only[Bool.not_false]at z;rw[z]
    have E:a.length+cg a.length+7+gh a.length r+(fz (a.length+cg a.length+7+gh a.length r) false (r.drop (gh a.length r))).length=a.length+(fz a.length first r).length:=by
     rw[K];simp[eA,gd,I];omega
    rw[E,Zr,YT]
theorem GN {b:List UInt8}{p:Nat}(h:b.length<=p):partAt b p=none:=by
 unfold partAt;rw[zaa h]
theorem Pw (a t c:List UInt8)(g:Nat)(kind:UInt8)(p:List UInt8)(B:p.length<=121)(ht:t++c=eA g++oF kind p)(E:c≠[]):partAt (a++t) (a.length+g)=none:=by
 have z:(eA g).length=g:=by simp[eA]
 rcases XH g t.length with h | h
 ·have e:t=eA g++t.drop g:=by
   have:=congrArg (List.take g) ht;rw[zar oMg,zbg z]at this
   conv=>lhs;rw[<-YT g t,this]
  have y:t.drop g++c=oF kind p:=by
   have:=congrArg (List.drop g) ht;rw[xS oMg,X0 z]at this;exact this
  have:=P2 (a++eA g) (t.drop g) c kind p B y E;rw[Zr,<-e,Ze,z]at this;exact this
 ·exact GN (by rw[Ze];omega)
theorem iF (a t c:List UInt8)(first:Bool)(r y:List UInt8)(last:Nat)(ht:t++c=fz a.length first r)(hc:c≠[]) :
 gC (a++t) a.length (!first) y last=([],last):=by
 have aa:0<c.length:=ZO.2 hc;have ae:=oM a.length r;have U:(eA (cg a.length)).length=cg a.length:=by simp[eA]
 have O:(oF (ke first (decide (gh a.length r=r.length))) (r.take (gh a.length r))).length=7+gh a.length r:=by rw[gd,jH]
 have J:=pW a.length first r;rw[<-Zr]at J;have z:(eA (cg a.length)++oF (ke first (decide (gh a.length r=r.length))) (r.take (gh a.length r))).length=cg a.length+7+gh a.length r:=by rw[Ze,U,O];omega
 by_cases E:t.length<cg a.length+7+gh a.length r
 ·refine tZ (Pw a t (c.take (cg a.length+7+gh a.length r-t.length)) (cg a.length) (ke first (decide (gh a.length r=r.length))) (r.take (gh a.length r)) (by rw[jH];exact gQ _ _) ?_ ?_)
  ·have e:=congrArg (List.take (cg a.length+7+gh a.length r)) ht
   rw[J,zbg z,zaq,Zn (Nat.le_of_lt E)]at e;exact e
  ·intro e
   have:=congrArg List.length e;rw[Zt,List.length_nil]at this;omega
 ·have K:¬gh a.length r=r.length:=fun K=>by
   have:=congrArg List.length ht;rw[J,if_pos K,ZH,z,Ze]at this;omega
  have I:0<r.length:=by
   rcases YD r.length with Z | Z
   ·omega
   ·exact Z
  have af:=qr a.length r I;rw[if_neg K]at J;rw[J]at ht
  have M:t=(eA (cg a.length)++oF (ke first (decide (gh a.length r=r.length))) (r.take (gh a.length r)))++t.drop (cg a.length+7+gh a.length r):=by
   have:=congrArg (List.take (cg a.length+7+gh a.length r)) ht;rw[zbg z,zar oMg]at this
   conv=>lhs;rw[<-YT (cg a.length+7+gh a.length r) t,this]
  have Y:t.drop (cg a.length+7+gh a.length r)++c=fz (a.length+cg a.length+7+gh a.length r) false (r.drop (gh a.length r)):=by
   have:=congrArg (List.drop (cg a.length+7+gh a.length r)) ht;rw[X0 z,xS oMg]at this;exact this
  generalize ag:t.drop (cg a.length+7+gh a.length r)=V at M Y
  have hp:=xU (a++eA (cg a.length)) V (ke first (decide (gh a.length r=r.length))) (r.take (gh a.length r)) (by rw[jH];exact gQ _ _) (by
   rw[jH,Ze,U];exact F6 _ _)
  have hb:a++eA (cg a.length)++(oF (ke first (decide (gh a.length r=r.length))) (r.take (gh a.length r))++V)=a++t:=by rw[M];simp only[Zr]
  rw[hb,Ze,U,jH]at hp;rw[xY hp (uu _ _) (by rw[wI,decide_eq_false K];rfl)]
  have B:(a++(eA (cg a.length)++oF (ke first (decide (gh a.length r=r.length))) (r.take (gh a.length r)))).length=a.length+cg a.length+7+gh a.length r:=by
   rw[Ze,z];omega
  have ih:=iF (a++(eA (cg a.length)++oF (ke first (decide (gh a.length r=r.length))) (r.take (gh a.length r)))) V c false (r.drop (gh a.length r)) (y++r.take (gh a.length r)) last (by rw[B];exact Y) hc;rw[B,Zr,<-M]at ih;exact ih
termination_by r.length
decreasing_by simp only[ZF];omega
def al (a:List UInt8)(l:List (List UInt8)):List UInt8:=l.foldl (fun b r=>b++fz b.length true r) a
theorem mO (a r:List UInt8)(l:List (List UInt8)):al a (r::l)=al (a++fz a.length true r) l:=rfl
theorem mP (a r:List UInt8)(l:List (List UInt8)):al a (l++[r])=al a l++fz (al a l).length true r:=by simp[al]
theorem zJ (a:List UInt8)(l m:List (List UInt8)):al a (l++m)=al (al a l) m:=by simp[al]
theorem rq:∀(l:List (List UInt8))(a:List UInt8),∃t,al a l=a++t
 | [],a=>⟨[],by simp[al]⟩
 | r::l,a=>by
   obtain⟨t,ht⟩:=rq l (a++fz a.length true r);exact⟨fz a.length true r++t,by rw[mO,ht,Zr]⟩
theorem qE:∀(l:List (List UInt8))(a c:List UInt8),
 gC (al a l++c) a.length false [] a.length=(l++(gC (al a l++c) (al a l).length false [] (al a l).length).1,(gC (al a l++c) (al a l).length false [] (al a l).length).2)
 | [],a,c=>rfl
 | r::l,a,c=>by
   have z:=qE l (a++fz a.length true r) c;obtain⟨t,ht⟩:=rq l (a++fz a.length true r);rw[mO];have y:=By r.length a (t++c) true r [] a.length (Zm _);have e:a++(fz a.length true r++(t++c))=al (a++fz a.length true r) l++c:=by rw[ht];simp only[Zr]
   rw[e]at y;simp only[za6,List.nil_append]at y;rw[y];rw[Ze]at z;rw[z];simp
theorem yj (l:List (List UInt8)):j3 (al [] l)=(l,(al [] l).length):=by
 have h:=qE l [] [];rw[ZH]at h;rw[tZ (p:=(al [] l).length) (GN (zbc _ _))]at h;simpa [j3]using h
theorem Pz (l:List (List UInt8))(c:List UInt8)(h:(gC (al [] l++c) (al [] l).length false [] (al [] l).length)=([],(al [] l).length)):j3 (al [] l++c)=(l,(al [] l).length):=by
 have y:=qE l [] c;rw[h]at y;simpa [j3]using y
theorem PM (l:List (List UInt8))(r t c:List UInt8)(ht:t++c=fz (al [] l).length true r)(y:c≠[]):j3 (al [] l++t)=(l,(al [] l).length) :=
 Pz l t (iF (al [] l) t c true r [] _ ht y)
theorem C4 (l:List (List UInt8)){i j:Nat}(h:i<=j):(al [] (l.take i)).length<=(al [] (l.take j)).length:=by
 have e:l.take j=l.take i++(l.take j).drop i:=by
  conv=>lhs;rw[<-YT i (l.take j),List.take_take,YJ h]
 rw[e,zJ];obtain⟨t,ht⟩:=rq ((l.take j).drop i) (al [] (l.take i));rw[ht,Ze];omega
theorem Py (l:List (List UInt8))(k:Nat)(i:Nat)(I:i<l.length)(E:(al [] (l.take i)).length<=k)(K:k<(al [] (l.take (i+1))).length):j3 ((al [] l).take k)=(l.take i,(al [] (l.take i)).length):=by
 have e:l.take (i+1)=l.take i++[l[i]]:=(Zx I);have y:al [] (l.take (i+1))=al [] (l.take i)++fz (al [] (l.take i)).length true l[i]:=by rw[e,mP]
 obtain⟨t,ht⟩:=rq (l.drop (i+1)) (al [] (l.take (i+1)));have z:al [] l=al [] (l.take (i+1))++t:=by rw[<-ht,<-zJ,YT]
 have M:k=(al [] (l.take i)).length+(k-(al [] (l.take i)).length):=oMg
 have J:(fz (al [] (l.take i)).length true l[i]).length=(al [] (l.take (i+1))).length-(al [] (l.take i)).length:=by rw[y,Ze];omega
 have B:(al [] l).take k=al [] (l.take i)++(fz (al [] (l.take i)).length true l[i]).take (k-(al [] (l.take i)).length):=by
  rw[z,y,Zr,zaq,Zn E,zar oMg]
 rw[B];refine PM (l.take i) l[i] _ ((fz (al [] (l.take i)).length true l[i]).drop (k-(al [] (l.take i)).length)) (YT _ _) fun e=>?_;have:=congrArg List.length e;rw[ZF,List.length_nil]at this;omega
theorem tq (p:Nat)(first:Bool)(r:List UInt8):(fz p first r).length=cg p+(7+gh p r)+(if gh p r=r.length then 0 else (fz (p+cg p+7+gh p r) false (r.drop (gh p r))).length):=by
 rw[pW];simp only[Ze,eA,Yh,gd,jH]
 split
 ·rfl
 ·omega
theorem F7 (p n:Nat):gh p (eA n)=min n (128-(p+cg p)%128-7):=by simp[gh,eA]
theorem uf (m:Nat):∀(p:Nat)(f g:Bool)(r s:List UInt8),r.length<=m->r.length=s.length->(fz p f r).length=(fz p g s).length:=by
 induction m with
 | zero =>
   intro p f g r s h e;have B:r=[]:=Zo oMg;have E:s=[]:=Zo oMg;subst B E;rw[tq,tq p g,if_pos (by simp[gh])]
 | succ m I =>
   intro p f g r s h e;have z:gh p r=gh p s:=by unfold gh;rw[e]
   rw[tq,tq p g,<-z,<-e]
   congr 1
   split
   ·rfl
   ·rename_i hne
    have y:0<r.length:=by
     rcases YD r.length with y | y
     ·have:=oM p r;omega
     ·exact y
    have:=qr p r y;exact I _ _ _ _ _ (by rw[ZF];omega) (by simp[e])
def AW (p n:Nat):Nat:=(fz p true (eA n)).length
theorem Fc (p:Nat)(f:Bool)(r:List UInt8):(fz p f r).length=AW p r.length:=uf _ _ _ _ _ _ (Zm _) (by simp[eA])
theorem rQ (p n:Nat):AW p n=cg p+(7+min n (128-(p+cg p)%128-7))+(if min n (128-(p+cg p)%128-7)=n then 0 else AW (p+cg p+7+min n (128-(p+cg p)%128-7)) (n-min n (128-(p+cg p)%128-7))):=by
 unfold AW;rw[tq,F7];have y:(eA n).length=n:=by simp[eA]
 rw[y]
 congr 1
 split
 ·rfl
 ·exact uf _ _ _ _ _ _ (Zm _) (by simp[eA])
theorem KL (p n:Nat):7<=AW p n:=by rw[rQ];omega
theorem MF (p:Nat)(f:Bool)(r:List UInt8):7<=(fz p f r).length:=by rw[Fc];exact KL _ _
end Go.Sl
