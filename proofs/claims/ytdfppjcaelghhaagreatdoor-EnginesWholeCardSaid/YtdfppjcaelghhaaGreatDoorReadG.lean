/- Plain lemmas and contracts; the conditions are in each. -/
import Derived.Test.YtdfppjcaelghhaaGreatDoorPartsG
set_option maxHeartbeats 4000000
set_option maxRecDepth 4000
namespace Go.Proofs.YtdfppjcaelghhaaGreatDoor
open Go.RowKit Go.Sl
attribute [local go_sem] ab bh bd kY
theorem oG (A:Option Addr)(k c:Nat)(xs:List Value)(w w0:World)(S:ba)(m:Mod w w0 S)(r:bk S A k xs)(E:∀u∈xs,u.oneCell'=true)(K:k<=140737488355328) :
 Calls Tryz.prog 177 #[.slice A k c] w fun e J=>∃A' c',e=.returned (.slice A' k c')/\Mod J w0 (ar 5 1 (.slice A' k c') k xs*S):=by
 have y:=fp m r
 cases A with
 | none =>
   have z:k=0:=by
    rcases YD k with h | h
    ·exact h
    ·obtain⟨ad,I,_⟩:=cP m r h;cases I
   subst z;have B:xs=[]:=Zo y;subst B;go_enter Tryz.func177,Tryz.ntmps177
   go_wp2
   go_ret
   exact⟨none,0,rfl,lS m⟩
 | some ad =>
   go_enter Tryz.func177,Tryz.ntmps177
   go_wp2_with (at_builtin;(refine cS (v:=.slice (some ⟨w.heap.size,0,none⟩) 0 0) (A:=some ad) (k:=k) (c:=c) rfl rfl (EO zbk) rfl rfl E (by unfold maxLen;omega) oMg ?_);intro A' c' M _m3)
   go_ret
   simp only[ZM,List.nil_append,b9]at _m3 ⊢;exact⟨A',c',rfl,_m3⟩
def vR:List (Option Addr×Nat)->List (List UInt8)->ba
 | h::hs,r::rs=>ar 5 1 (.slice h.1 r.length h.2) r.length (b7 r)*vR hs rs
 | _,_=>sC
theorem vS (A:Option Addr)(c:Nat)(l:List UInt8):∀(y:List (Option Addr×Nat))(rs:List (List UInt8)),y.length=rs.length->vR (y++[(A,c)]) (rs++[l])=ar 5 1 (.slice A l.length c) l.length (b7 l)*vR y rs
 | [],[],_=>rfl
 | h::y,r::rs,e=>by
   show ar _ _ _ _ _*vR (y++[(A,c)]) (rs++[l])=_*(_*_);rw[vS A c l y rs (by simpa using e),cC]
 | [],_::_,e=>by cases e
 | _::_,[],e=>by cases e
structure lZ (G:ba)(xs:List Value)(rs:List (List UInt8)):Prop where
 each:∃hs:List (Option Addr×Nat),hs.length=rs.length/\xs=((hs.zip rs).map fun q=>Value.slice q.1.1 q.2.length q.1.2)/\G=vR hs rs/\∀i (h1:i<hs.length) (h2:i<rs.length),bk G hs[i].1 rs[i].length (b7 rs[i])/\rs[i].length<=hs[i].2
theorem lZ.nil:lZ sC [] []:=⟨[],rfl,rfl,rfl,fun i h=>absurd h (by simp)⟩
theorem lZ.snoc {G:ba}{xs:List Value}{rs:List (List UInt8)}(r:lZ G xs rs)(A:Option Addr)(c:Nat)(l:List UInt8)(M:l.length<=c) :
 lZ (ar 5 1 (.slice A l.length c) l.length (b7 l)*G) (xs++[.slice A l.length c]) (rs++[l]):=by
 obtain⟨z,y,rfl,K,J⟩:=r;refine⟨z++[(A,c)],by simp[y],by rw[List.zip_append y];simp,by rw[vS A c l z rs y,K],fun i a b=>?_⟩;by_cases h:i<rs.length
 ·have B:i<z.length:=oMg
  have:=J i B h;simp only[XY h,XY B];exact⟨ct zbk this.1,this.2⟩
 ·have e:i=rs.length:=by simp at b;omega
  subst e
  have E:(z++[(A,c)])[rs.length]=(A,c):=by
   rw[List.getElem_append_right oMg];simp[y]
  have I:(rs++[l])[rs.length]=l:=by simp
  simp only[E,I];exact⟨zbk,M⟩
theorem ON {b:List UInt8}{q:Nat}(h:q+7<=b.length):∃B E I J z y kind,b.drop q=B::E::I::J::z::y::kind::b.drop (q+7)/\b[q+4]?=some z/\b[q+5]?=some y/\b[q+6]?=some kind:=by
 refine⟨b[q],b[q+1],b[q+2],b[q+3],b[q+4],b[q+5],b[q+6],?_,Zg _,Zg _,Zg _⟩
 rw[Ya oMg,Ya (by omega:q+1<b.length),Ya (by omega:q+1+1<b.length),Ya (by omega:q+1+1+1<b.length),
  Ya (by omega:q+1+1+1+1<b.length),Ya (by omega:q+1+1+1+1+1<b.length),Ya (by omega:q+1+1+1+1+1+1<b.length)]
theorem Kj {b:List UInt8}{q:Nat}{B E I J z y kind:UInt8}(h:b.drop q=B::E::I::J::z::y::kind::b.drop (q+7)) :
 Sl.partAt b q=if (128-(q+7)%128<z.toNat*256+y.toNat/\0<z.toNat*256+y.toNat)\/(b.drop (q+7)).length<z.toNat*256+y.toNat\/(lH kind ((b.drop (q+7)).take (z.toNat*256+y.toNat))).toNat≠sM B E I J then none
 else some (kind,(b.drop (q+7)).take (z.toNat*256+y.toNat),q+7+(z.toNat*256+y.toNat)):=by
 unfold Sl.partAt;rw[h]
theorem GO {b:List UInt8}{q:Nat}(h:b.length<q+7):Sl.partAt b q=none:=by
 unfold Sl.partAt
 split
 ·rename_i a0 a1 a2 a3 l1 l0 k rest e
  have:=congrArg List.length e;rw[ZF]at this;simp only[List.length_cons]at this;omega
 ·rfl
theorem Gm (a b:Nat)(y:a<65536)(z:b<65536):bits .or .i64 (a:Int) (b:Int)=((a ||| b:Nat):Int):=by
 have E:a ||| b<2 ^ 16:=Nat.or_lt_two_pow oMg oMg
 have e:∀k:Nat,k<65536->(BitVec.ofInt 64 (k:Int)).toNat=k:=fun k B=>by simp;omega
 show IntKind.i64.wrap ((BitVec.ofInt 64 (a:Int) ||| BitVec.ofInt 64 (b:Int)).toNat:Int)=_;rw[BitVec.toNat_or,e a y,e b z,IntKind.wrap_i64];omega
theorem Oe (y z:UInt8):bits .or .i64 (wrap64 (wrap64 (y.toNat:Int)*256)) (wrap64 (z.toNat:Int))=((y.toNat*256+z.toNat:Nat):Int):=by
 have K:=y.toNat_lt;have J:=z.toNat_lt;have E:wrap64 (y.toNat:Int)=(y.toNat:Int):=by unfold wrap64;omega
 have B:wrap64 (z.toNat:Int)=(z.toNat:Int):=by unfold wrap64;omega
 have I:wrap64 ((y.toNat:Int)*256)=((y.toNat*256:Nat):Int):=by unfold wrap64;omega
 rw[E,B,I,Gm _ _ oMg oMg,nat_join 8 (y.toNat*256) z.toNat oMg oMg]
def ou (b:List UInt8)(q:Nat)(y:Bool)(z:List UInt8)(last:Nat)(rs:List (List UInt8)):Prop :=
 ∃p,q=p+cg p/\j3 b=(rs++(gC b p y z last).1,(gC b p y z last).2)
theorem AO (b:List UInt8):ou b (cg 0) false [] 0 []:=⟨0,by simp,rfl⟩
theorem mV {b:List UInt8}{q:Nat}{y:Bool}{z:List UInt8}{last:Nat}{rs:List (List UInt8)}(h:ou b q y z last rs)(hn:Sl.partAt b q=none):j3 b=(rs,last):=by
 obtain⟨p,rfl,h⟩:=h;rw[h,tZ hn,ZH]
theorem mY {b:List UInt8}{q:Nat}{y:Bool}{z:List UInt8}{last:Nat}{rs:List (List UInt8)}{k:UInt8}{x:List UInt8}{e:Nat}(h:ou b q y z last rs)(hn:Sl.partAt b q=some (k,x,e))(B:mK y k=false):j3 b=(rs,last):=by
 obtain⟨p,rfl,h⟩:=h;rw[h,Ad hn B,ZH]
theorem pS {b:List UInt8}{q:Nat}{y:Bool}{z:List UInt8}{last:Nat}{rs:List (List UInt8)}{k:UInt8}{x:List UInt8}{e:Nat}(h:ou b q y z last rs)(hn:Sl.partAt b q=some (k,x,e))(E:mK y k=true)(B:wH k=true) :
 ou b (e+cg e) true (z++x) last rs:=by
 obtain⟨p,rfl,h⟩:=h;exact⟨e,rfl,by rw[h,xY hn E B]⟩
theorem mZ {b:List UInt8}{q:Nat}{y:Bool}{z:List UInt8}{last:Nat}{rs:List (List UInt8)}{k:UInt8}{x:List UInt8}{e:Nat}(h:ou b q y z last rs)(hn:Sl.partAt b q=some (k,x,e))(E:mK y k=true)(B:wH k=false) :
 ou b (e+cg e) false [] e (rs++[z++x]):=by
 obtain⟨p,rfl,h⟩:=h;exact⟨e,rfl,by rw[h,pv hn E B];simp⟩
theorem Iu {w w0:World}{A B C D E y z:ba}(m:Mod w w0 (A*(B*(y*(C*(z*(D*E))))))):Mod w w0 (B*(A*(C*D*E))):=Mod.drop (A:=y*z) (m:=Mod.to (m:=m) (by ac_rfl))
instance Nf:wl Tryz.prog 124 67 24:=⟨Tryz.underlying124,by kernel_rfl⟩
theorem zM (y:Bool)(kind:UInt8):(y=false/\kind=1)\/(y=false/\kind=2)\/(y=true/\kind=3)\/(y=true/\kind=4) \/
 (mK y kind=false/\((y=false/\kind.toNat≠1/\kind.toNat≠2)\/(y=true/\kind.toNat≠3/\kind.toNat≠4))):=by
 have e:∀k:UInt8,∀n:Nat,n<256->(kind.toNat=n->kind=UInt8.ofNat n):=fun k n hn h=>by
  rw[<-h];simp
 cases y
 ·by_cases z:kind=1
  ·exact .inl ⟨rfl,z⟩
  ·by_cases B:kind=2
   ·exact .inr (.inl ⟨rfl,B⟩)
   ·exact .inr (.inr (.inr (.inr ⟨by simp[mK,z,B],.inl ⟨rfl,fun h=>z (e kind 1 oMg h),fun h=>B (e kind 2 oMg h)⟩⟩)))
 ·by_cases z:kind=3
  ·exact .inr (.inr (.inl ⟨rfl,z⟩))
  ·by_cases B:kind=4
   ·exact .inr (.inr (.inr (.inl ⟨rfl,B⟩)))
   ·exact .inr (.inr (.inr (.inr ⟨by simp[mK,z,B],.inr ⟨rfl,fun h=>z (e kind 3 oMg h),fun h=>B (e kind 4 oMg h)⟩⟩)))
theorem rL {w w0:World}{e:TypeId}{A:Option Addr}{k c:Nat}{xs:List Value}{F:ba}(m:Mod w w0 (ar e 1 (.slice A k c) k xs*F)):k<=c:=by
 rcases (fW m).2 with⟨y,B⟩ | ⟨g,cap,z,y,_,_,B,_⟩
 ·omega
 ·injection y with _ _ E;omega
def Qo (y:List (List UInt8)×Nat)(w0:World)(S:ba)(e:Ending)(z:World):Prop :=
 ∃A' c' xs R,e=.returned (.tuple #[.slice A' y.1.length c',.int .i64 (y.2:Int)])/\lZ R xs y.1/\Mod z w0 (ar 67 1 (.slice A' y.1.length c') y.1.length xs*(R*S))
theorem Ks (B:Option Addr)(n c:Nat)(b:List UInt8)(w w0:World)(S:ba)(m:Mod w w0 S)(r:bk S B n (b7 b))(hc:n<=c)(hn:n<=1073741824) :
 Calls Tryz.prog 119 #[.slice B n c] w (Qo (j3 b) w0 S):=by
 have aK:b.length=n:=by have:=fp m r;rwa [fg]at this
 obtain⟨rd,aI⟩:∃rd,j3 b=rd:=⟨_,rfl⟩;have af:=zbj aI;have az:=zbj aK;rw[aI];clear aI aK;go_enter Tryz.func119,Tryz.ntmps119
 go_wp2_with fail
 go_step3
 go_wp2_with fail
 go_step3
 go_wp2_with (go_at_call 125;refine(o8 0 _ w0 S m oMg).mono ?_;rintro e w1 ⟨rfl,m1⟩)
 go_loopg [2,3,4,5,6] (n+8) (fun gk vr ve vc vb va wr=>∃(rs:List (List UInt8))(last:Nat)(y:List UInt8)(ax:Bool)(q:Nat)(xs:List Value)(R:ba)(Ar Ac:Option Addr)(cr cc:Nat),
  gk=n+8-q/\vr=.slice Ar rs.length cr/\ve=.int .i64 (last:Int)/\vc=.slice Ac y.length cc/\vb=.bool ax/\va=.int .i64 (q:Int)/\q<=n+7/\y.length<=q/\rs.length<=q /\
  Hid (ou b q ax y last rs)/\lZ R xs rs/\Mod wr w0 (ar 67 1 (.slice Ar rs.length cr) rs.length xs*(ar 5 1 (.slice Ac y.length cc) y.length (b7 y)*(R*S))))
 case atStart =>
  exact⟨[],0,[],false,cg 0,[],sC,none,none,0,0,by simp[cg],rfl,rfl,rfl,rfl,rfl,by simp[cg],by simp,by simp,AO b,lZ.nil,lS (lS (Mod.to (b9 S).symm (m:=m1)))⟩
 case round =>
  obtain⟨rs,last,y,ax,q,xs,R,Ar,Ac,cr,cc,aM,rfl,rfl,rfl,rfl,rfl,hq,aX,aZ,E,I,m2⟩:=hrel;by_cases h7:q+7<=n
  ·obtain⟨SS,aB,aJ⟩:∃SS,SS=_/\Mod wr w0 SS:=⟨_,rfl,m2⟩
   have r1:bk SS B n (b7 b):=by rw[aB];infer_instance
   have ah:=zbj aB;clear aB;obtain⟨ad,hB,aP,aL⟩:=cP aJ r1 oMg;clear aL;obtain⟨bb,oo,sp⟩:=ad;simp only at aP;subst aP hB;obtain⟨a0,a1,a2,a3,l1,l0,kind,hd,h4,h5,h6⟩:=ON (b:=b) (q:=q) (by rw[az.out];exact h7);have r2:=nO r1 (by omega:q<=n) hc;rw[if_neg oMg,hd]at r2;have Hd:=zbj hd;have H4:=zbj h4;have H5:=zbj h5;have H6:=zbj h6;have ai:=zbj aM;clear hd h4 h5 h6 aM;rw[Option.map_some,jl _ _ rfl]at r2;go_wp2_with fail
   refine(vz (some ⟨bb,oo+q,none⟩) (n-q) (c-q) a0 a1 a2 a3 (l1::l0::kind::b.drop (q+7)) wr w0 SS aJ r2 oMg oMg).mono ?_;rintro e w3 ⟨rfl,m3⟩;go_wp2_with fail
   obtain⟨ad,hB,_,ag⟩:=cP m3 r1 oMg;injection hB with hB;subst hB;have aU:=ag (q+4) (.int .u8 (l1.toNat:Int)) (by simp[b7,H4.out]);have aV:=ag (q+5) (.int .u8 (l0.toNat:Int)) (by simp[b7,H5.out]);have aW:=ag (q+6) (.int .u8 (kind.toNat:Int)) (by simp[b7,H6.out]);clear ag aJ m2;go_quiet (fail)
   rw[Oe];have m4:Mod (w3.drewN nq) w0 SS:=Mod.drewN (m:=m3) nq;generalize w3.drewN nq=w4 at *;have ay:(b.drop (q+7)).length=n-(q+7):=by rw[ZF,az.out]
   have K:=zbj (Kj Hd.out);have aR:=l1.toNat_lt;have aQ:=l0.toNat_lt;obtain⟨z,aN⟩:∃z,l1.toNat*256+l0.toNat=z:=⟨_,rfl⟩;rw[aN]at K ⊢;have aY:z<65536:=oMg
   clear aU aV aW H4 H5 H6 aN aR aQ;have av:=zbj ay;clear ay;by_cases hA:128-(q+7)%128<z
   ·have Y:Hid (j3 b=(rs,last)):=mV E.out (by rw[K.out,if_pos (.inl ⟨hA,oMg⟩)])
    obtain rfl:(rs,last)=rd:=by rw[<-af.out,Y.out]
    rw[ah.out]at m4;go_wp2_with fail
    (try rw[Exit.noGoto_ret])
    go_ret2
    exact⟨Ar,cr,xs,R,rfl,I,mG m4⟩
   ·by_cases hB:n<q+7+z
    ·have Y:Hid (j3 b=(rs,last)):=mV E.out (by rw[K.out,if_pos (.inr (.inl (by rw[av.out];omega)))])
     obtain rfl:(rs,last)=rd:=by rw[<-af.out,Y.out]
     rw[ah.out]at m4;go_wp2_with fail
     (try rw[Exit.noGoto_ret])
     go_ret2
     exact⟨Ar,cr,xs,R,rfl,I,mG m4⟩
    ·obtain⟨piece,V⟩:∃piece,(b.drop (q+7)).take z=piece:=⟨_,rfl⟩
     have aO:piece.length=z:=by rw[<-V,Zt,av.out];omega
     have U:=zbj V;have M:=zbj aO;have r4:=r1.part (q+7) z oMg;rw[Bb,V,Option.map_some,jl _ _ rfl]at r4;clear V aO;by_cases aT:c=q+7
     ·subst aT
      have r3:bk SS (some ⟨bb,oo,none⟩) z (b7 piece):=by
       have e0:z=0:=oMg
       have e1:piece=[]:=Zo (by rw[M.out];exact e0);rw[e0,e1];exact bk.jE _
      have HC:=zbj (vX kind (some ⟨bb,oo,none⟩) z 0 piece w4 w0 SS m4 r3 oMg);by_cases hC:(lH kind piece).toNat=sM a0 a1 a2 a3
      ·rw[hC]at HC
       have Hp:Hid (Sl.partAt b q=some (kind,piece,q+7+z)):=by
        show _=_;rw[K.out,U.out,if_neg];simp only[not_or,not_and,av.out];exact⟨fun h=>absurd h hA,oMg,by simp[hC]⟩
       clear hC;go_wp2_with fail
       refine HC.out.mono ?_;rintro e w5 ⟨rfl,m5⟩;rw[ah.out]at m5 r3;clear ah r1 r2 r4 m4 HC;have O:Hid (q+7+z-(q+7)=z):=(by omega:q+7+z-(q+7)=z);rcases zM ax kind with⟨rfl,rfl⟩ | ⟨rfl,rfl⟩ | ⟨rfl,rfl⟩ | ⟨rfl,rfl⟩ | ⟨hf,⟨rfl,aD,aF⟩ | ⟨rfl,aD,aF⟩⟩
       ·have ak:(((1:UInt8).toNat:Nat):Int)=1:=by decide
        have J:=zbj (mZ E.out Hp.out (by rfl) (by rfl));clear E K Hp;go_wp2_with (at_builtin;(refine cS (v:=.slice Ac y.length cc) (A:=some ⟨bb,oo,none⟩) (k:=z) (c:=0) (news:=b7 piece) (r:=r3) rfl rfl m5 rfl (by show Value.slice _ (q+7+z-(q+7)) _=_;rw[O.out]) (io _) (by unfold maxLen;omega) oMg ?_);intro A6 c6 w6 m6)
        refine(oG A6 (y.length+z) c6 (b7 y++b7 piece) w6 w0 _ m6 zbk (by rw[<-eC];exact io _) oMg).mono ?_;rintro e w7 ⟨A7,c7,rfl,m7⟩;have au:=rL (m:=m7);go_wp2_with (at_builtin;refine Hid.out ?_)
        refine zbj ?_;have mm:Mod (w7.alloc (.cells #[.slice A7 (y.length+z) c7] 67)) w0 _:=zbk;refine cS (v:=.slice Ar rs.length cr) (A:=some ⟨w7.heap.size,0,none⟩) (k:=1) (c:=1) (news:=[.slice A7 (y.length+z) c7]) (r:=ce rfl rfl) rfl rfl mm rfl rfl (by simp[Value.oneCell']) (by unfold maxLen;omega) oMg ?_;intro A8 c8 w8 m8;have m9:=lS (e:=5) m8;go_wp2_with fail
        have aj:=kP (q+7+z);refine(pJ _ (q+7+z) oMg w8 w0 _ m9 oMg).mono ?_;rintro e w9 ⟨rfl,ae⟩;go_wp2_with fail
        have Z:(y++piece).length=y.length+z:=by rw[Ze,M.out]
        have aa:=lZ.snoc I A7 c7 (y++piece) (by rw[Z];exact au);rw[Z]at aa;go_roundg (n+8-(q+7+z+cg (q+7+z)))
        case measure=>rw[ai.out];omega
        case rel =>
         refine⟨rs++[y++piece],q+7+z,[],false,q+7+z+cg (q+7+z),xs++[.slice A7 (y.length+z) c7],_,A8,none,c8,0,rfl,by rw[Ze];rfl,by go_num,rfl,rfl,by go_num,oMg,by simp,by simp;omega,J,aa,?_⟩;have e1:(rs++[y++piece]).length=rs.length+1:=by simp
         simp only[b9]at ae;rw[e1,eC];exact Iu ae
       ·have ak:(((2:UInt8).toNat:Nat):Int)=2:=by decide
        have J:=zbj (pS E.out Hp.out (by rfl) (by rfl));clear E K Hp;go_wp2_with (at_builtin;(refine cS (v:=.slice Ac y.length cc) (A:=some ⟨bb,oo,none⟩) (k:=z) (c:=0) (news:=b7 piece) (r:=r3) rfl rfl m5 rfl (by show Value.slice _ (q+7+z-(q+7)) _=_;rw[O.out]) (io _) (by unfold maxLen;omega) oMg ?_);intro A6 c6 w6 m6)
        have aj:=kP (q+7+z);refine(pJ _ (q+7+z) oMg w6 w0 _ m6 oMg).mono ?_;rintro e w7 ⟨rfl,m7⟩;go_wp2_with fail
        go_roundg (n+8-(q+7+z+cg (q+7+z)))
        case measure=>rw[ai.out];omega
        case rel =>
         refine⟨rs,last,y++piece,true,q+7+z+cg (q+7+z),xs,R,Ar,A6,cr,c6,rfl,rfl,rfl,by rw[Ze,M.out],rfl,by go_num,oMg,by rw[Ze,M.out];omega,oMg,J,I,?_⟩;rw[Ze,M.out,eC];exact Mod.to (m:=m7) (by simp only[b9];ac_rfl)
       ·have ak:(((3:UInt8).toNat:Nat):Int)=3:=by decide
        have J:=zbj (pS E.out Hp.out (by rfl) (by rfl));clear E K Hp;go_wp2_with (at_builtin;(refine cS (v:=.slice Ac y.length cc) (A:=some ⟨bb,oo,none⟩) (k:=z) (c:=0) (news:=b7 piece) (r:=r3) rfl rfl m5 rfl (by show Value.slice _ (q+7+z-(q+7)) _=_;rw[O.out]) (io _) (by unfold maxLen;omega) oMg ?_);intro A6 c6 w6 m6)
        have aj:=kP (q+7+z);refine(pJ _ (q+7+z) oMg w6 w0 _ m6 oMg).mono ?_;rintro e w7 ⟨rfl,m7⟩;go_wp2_with fail
        go_roundg (n+8-(q+7+z+cg (q+7+z)))
        case measure=>rw[ai.out];omega
        case rel =>
         refine⟨rs,last,y++piece,true,q+7+z+cg (q+7+z),xs,R,Ar,A6,cr,c6,rfl,rfl,rfl,by rw[Ze,M.out],rfl,by go_num,oMg,by rw[Ze,M.out];omega,oMg,J,I,?_⟩;rw[Ze,M.out,eC];exact Mod.to (m:=m7) (by simp only[b9];ac_rfl)
       ·have ak:(((4:UInt8).toNat:Nat):Int)=4:=by decide
        have J:=zbj (mZ E.out Hp.out (by rfl) (by rfl));clear E K Hp;go_wp2_with (at_builtin;(refine cS (v:=.slice Ac y.length cc) (A:=some ⟨bb,oo,none⟩) (k:=z) (c:=0) (news:=b7 piece) (r:=r3) rfl rfl m5 rfl (by show Value.slice _ (q+7+z-(q+7)) _=_;rw[O.out]) (io _) (by unfold maxLen;omega) oMg ?_);intro A6 c6 w6 m6)
        refine(oG A6 (y.length+z) c6 (b7 y++b7 piece) w6 w0 _ m6 zbk (by rw[<-eC];exact io _) oMg).mono ?_;rintro e w7 ⟨A7,c7,rfl,m7⟩;have au:=rL (m:=m7);go_wp2_with (at_builtin;refine Hid.out ?_)
        refine zbj ?_;have mm:Mod (w7.alloc (.cells #[.slice A7 (y.length+z) c7] 67)) w0 _:=zbk;refine cS (v:=.slice Ar rs.length cr) (A:=some ⟨w7.heap.size,0,none⟩) (k:=1) (c:=1) (news:=[.slice A7 (y.length+z) c7]) (r:=ce rfl rfl) rfl rfl mm rfl rfl (by simp[Value.oneCell']) (by unfold maxLen;omega) oMg ?_;intro A8 c8 w8 m8;have m9:=lS (e:=5) m8;go_wp2_with fail
        have aj:=kP (q+7+z);refine(pJ _ (q+7+z) oMg w8 w0 _ m9 oMg).mono ?_;rintro e w9 ⟨rfl,ae⟩;go_wp2_with fail
        have Z:(y++piece).length=y.length+z:=by rw[Ze,M.out]
        have aa:=lZ.snoc I A7 c7 (y++piece) (by rw[Z];exact au);rw[Z]at aa;go_roundg (n+8-(q+7+z+cg (q+7+z)))
        case measure=>rw[ai.out];omega
        case rel =>
         refine⟨rs++[y++piece],q+7+z,[],false,q+7+z+cg (q+7+z),xs++[.slice A7 (y.length+z) c7],_,A8,none,c8,0,rfl,by rw[Ze];rfl,by go_num,rfl,rfl,by go_num,oMg,by simp,by simp;omega,J,aa,?_⟩;have e1:(rs++[y++piece]).length=rs.length+1:=by simp
         simp only[b9]at ae;rw[e1,eC];exact Iu ae
       ·have Y:Hid (j3 b=(rs,last)):=mY E.out Hp.out hf
        obtain rfl:(rs,last)=rd:=by rw[<-af.out,Y.out]
        clear Y E K Hp hf;have aG:((kind.toNat:Int)==1)=false:=beq_eq_false_iff_ne.2 oMg;have aH:((kind.toNat:Int)==2)=false:=beq_eq_false_iff_ne.2 oMg;go_wp2_with fail
        (try rw[Exit.noGoto_ret])
        go_ret2
        exact⟨Ar,cr,xs,R,rfl,I,mG m5⟩
       ·have Y:Hid (j3 b=(rs,last)):=mY E.out Hp.out hf
        obtain rfl:(rs,last)=rd:=by rw[<-af.out,Y.out]
        clear Y E K Hp hf;have aG:((kind.toNat:Int)==3)=false:=beq_eq_false_iff_ne.2 oMg;have aH:((kind.toNat:Int)==4)=false:=beq_eq_false_iff_ne.2 oMg;go_wp2_with fail
        (try rw[Exit.noGoto_ret])
        go_ret2
        exact⟨Ar,cr,xs,R,rfl,I,mG m5⟩
      ·have Y:Hid (j3 b=(rs,last)):=mV E.out (by rw[K.out,U.out,if_pos (.inr (.inr hC))])
       obtain rfl:(rs,last)=rd:=by rw[<-af.out,Y.out]
       clear Y K;generalize (lH kind piece).toNat=sm at *;generalize sM a0 a1 a2 a3=wt at *;have aS:((sm:Int)!=(wt:Int))=true:=by rw[bne_iff_ne];omega
       clear hC;go_wp2_with fail
       refine HC.out.mono ?_;rintro e w5 ⟨rfl,m5⟩;go_wp2_with fail
       rw[ah.out]at m5
       (try rw[Exit.noGoto_ret])
       go_ret2
       exact⟨Ar,cr,xs,R,rfl,I,mG m5⟩
     ·-- the part's bytes
      have r3:bk SS (some ⟨bb,oo+(q+7),none⟩) z (b7 piece):=r4;have HC:=zbj (vX kind (some ⟨bb,oo+(q+7),none⟩) z (c-(q+7)) piece w4 w0 SS m4 r3 oMg);by_cases hC:(lH kind piece).toNat=sM a0 a1 a2 a3
      ·rw[hC]at HC
       have Hp:Hid (Sl.partAt b q=some (kind,piece,q+7+z)):=by
        show _=_;rw[K.out,U.out,if_neg];simp only[not_or,not_and,av.out];exact⟨fun h=>absurd h hA,oMg,by simp[hC]⟩
       clear hC;go_wp2_with fail
       refine HC.out.mono ?_;rintro e w5 ⟨rfl,m5⟩;rw[ah.out]at m5 r3;clear ah r1 r2 r4 m4 HC;have O:Hid (q+7+z-(q+7)=z):=(by omega:q+7+z-(q+7)=z);rcases zM ax kind with⟨rfl,rfl⟩ | ⟨rfl,rfl⟩ | ⟨rfl,rfl⟩ | ⟨rfl,rfl⟩ | ⟨hf,⟨rfl,aD,aF⟩ | ⟨rfl,aD,aF⟩⟩
       ·have ak:(((1:UInt8).toNat:Nat):Int)=1:=by decide
        have J:=zbj (mZ E.out Hp.out (by rfl) (by rfl));clear E K Hp;go_wp2_with (at_builtin;(refine cS (v:=.slice Ac y.length cc) (A:=some ⟨bb,oo+(q+7),none⟩) (k:=z) (c:=c-(q+7)) (news:=b7 piece) (r:=r3) rfl rfl m5 rfl (by show Value.slice _ (q+7+z-(q+7)) _=_;rw[O.out]) (io _) (by unfold maxLen;omega) oMg ?_);intro A6 c6 w6 m6)
        refine(oG A6 (y.length+z) c6 (b7 y++b7 piece) w6 w0 _ m6 zbk (by rw[<-eC];exact io _) oMg).mono ?_;rintro e w7 ⟨A7,c7,rfl,m7⟩;have au:=rL (m:=m7);go_wp2_with (at_builtin;refine Hid.out ?_)
        refine zbj ?_;have mm:Mod (w7.alloc (.cells #[.slice A7 (y.length+z) c7] 67)) w0 _:=zbk;refine cS (v:=.slice Ar rs.length cr) (A:=some ⟨w7.heap.size,0,none⟩) (k:=1) (c:=1) (news:=[.slice A7 (y.length+z) c7]) (r:=ce rfl rfl) rfl rfl mm rfl rfl (by simp[Value.oneCell']) (by unfold maxLen;omega) oMg ?_;intro A8 c8 w8 m8;have m9:=lS (e:=5) m8;go_wp2_with fail
        have aj:=kP (q+7+z);refine(pJ _ (q+7+z) oMg w8 w0 _ m9 oMg).mono ?_;rintro e w9 ⟨rfl,ae⟩;go_wp2_with fail
        have Z:(y++piece).length=y.length+z:=by rw[Ze,M.out]
        have aa:=lZ.snoc I A7 c7 (y++piece) (by rw[Z];exact au);rw[Z]at aa;go_roundg (n+8-(q+7+z+cg (q+7+z)))
        case measure=>rw[ai.out];omega
        case rel =>
         refine⟨rs++[y++piece],q+7+z,[],false,q+7+z+cg (q+7+z),xs++[.slice A7 (y.length+z) c7],_,A8,none,c8,0,rfl,by rw[Ze];rfl,by go_num,rfl,rfl,by go_num,oMg,by simp,by simp;omega,J,aa,?_⟩;have e1:(rs++[y++piece]).length=rs.length+1:=by simp
         simp only[b9]at ae;rw[e1,eC];exact Iu ae
       ·have ak:(((2:UInt8).toNat:Nat):Int)=2:=by decide
        have J:=zbj (pS E.out Hp.out (by rfl) (by rfl));clear E K Hp;go_wp2_with (at_builtin;(refine cS (v:=.slice Ac y.length cc) (A:=some ⟨bb,oo+(q+7),none⟩) (k:=z) (c:=c-(q+7)) (news:=b7 piece) (r:=r3) rfl rfl m5 rfl (by show Value.slice _ (q+7+z-(q+7)) _=_;rw[O.out]) (io _) (by unfold maxLen;omega) oMg ?_);intro A6 c6 w6 m6)
        have aj:=kP (q+7+z);refine(pJ _ (q+7+z) oMg w6 w0 _ m6 oMg).mono ?_;rintro e w7 ⟨rfl,m7⟩;go_wp2_with fail
        go_roundg (n+8-(q+7+z+cg (q+7+z)))
        case measure=>rw[ai.out];omega
        case rel =>
         refine⟨rs,last,y++piece,true,q+7+z+cg (q+7+z),xs,R,Ar,A6,cr,c6,rfl,rfl,rfl,by rw[Ze,M.out],rfl,by go_num,oMg,by rw[Ze,M.out];omega,oMg,J,I,?_⟩;rw[Ze,M.out,eC];exact Mod.to (m:=m7) (by simp only[b9];ac_rfl)
       ·have ak:(((3:UInt8).toNat:Nat):Int)=3:=by decide
        have J:=zbj (pS E.out Hp.out (by rfl) (by rfl));clear E K Hp;go_wp2_with (at_builtin;(refine cS (v:=.slice Ac y.length cc) (A:=some ⟨bb,oo+(q+7),none⟩) (k:=z) (c:=c-(q+7)) (news:=b7 piece) (r:=r3) rfl rfl m5 rfl (by show Value.slice _ (q+7+z-(q+7)) _=_;rw[O.out]) (io _) (by unfold maxLen;omega) oMg ?_);intro A6 c6 w6 m6)
        have aj:=kP (q+7+z);refine(pJ _ (q+7+z) oMg w6 w0 _ m6 oMg).mono ?_;rintro e w7 ⟨rfl,m7⟩;go_wp2_with fail
        go_roundg (n+8-(q+7+z+cg (q+7+z)))
        case measure=>rw[ai.out];omega
        case rel =>
         refine⟨rs,last,y++piece,true,q+7+z+cg (q+7+z),xs,R,Ar,A6,cr,c6,rfl,rfl,rfl,by rw[Ze,M.out],rfl,by go_num,oMg,by rw[Ze,M.out];omega,oMg,J,I,?_⟩;rw[Ze,M.out,eC];exact Mod.to (m:=m7) (by simp only[b9];ac_rfl)
       ·have ak:(((4:UInt8).toNat:Nat):Int)=4:=by decide
        have J:=zbj (mZ E.out Hp.out (by rfl) (by rfl));clear E K Hp;go_wp2_with (at_builtin;(refine cS (v:=.slice Ac y.length cc) (A:=some ⟨bb,oo+(q+7),none⟩) (k:=z) (c:=c-(q+7)) (news:=b7 piece) (r:=r3) rfl rfl m5 rfl (by show Value.slice _ (q+7+z-(q+7)) _=_;rw[O.out]) (io _) (by unfold maxLen;omega) oMg ?_);intro A6 c6 w6 m6)
        refine(oG A6 (y.length+z) c6 (b7 y++b7 piece) w6 w0 _ m6 zbk (by rw[<-eC];exact io _) oMg).mono ?_;rintro e w7 ⟨A7,c7,rfl,m7⟩;have au:=rL (m:=m7);go_wp2_with (at_builtin;refine Hid.out ?_)
        refine zbj ?_;have mm:Mod (w7.alloc (.cells #[.slice A7 (y.length+z) c7] 67)) w0 _:=zbk;refine cS (v:=.slice Ar rs.length cr) (A:=some ⟨w7.heap.size,0,none⟩) (k:=1) (c:=1) (news:=[.slice A7 (y.length+z) c7]) (r:=ce rfl rfl) rfl rfl mm rfl rfl (by simp[Value.oneCell']) (by unfold maxLen;omega) oMg ?_;intro A8 c8 w8 m8;have m9:=lS (e:=5) m8;go_wp2_with fail
        have aj:=kP (q+7+z);refine(pJ _ (q+7+z) oMg w8 w0 _ m9 oMg).mono ?_;rintro e w9 ⟨rfl,ae⟩;go_wp2_with fail
        have Z:(y++piece).length=y.length+z:=by rw[Ze,M.out]
        have aa:=lZ.snoc I A7 c7 (y++piece) (by rw[Z];exact au);rw[Z]at aa;go_roundg (n+8-(q+7+z+cg (q+7+z)))
        case measure=>rw[ai.out];omega
        case rel =>
         refine⟨rs++[y++piece],q+7+z,[],false,q+7+z+cg (q+7+z),xs++[.slice A7 (y.length+z) c7],_,A8,none,c8,0,rfl,by rw[Ze];rfl,by go_num,rfl,rfl,by go_num,oMg,by simp,by simp;omega,J,aa,?_⟩;have e1:(rs++[y++piece]).length=rs.length+1:=by simp
         simp only[b9]at ae;rw[e1,eC];exact Iu ae
       ·have Y:Hid (j3 b=(rs,last)):=mY E.out Hp.out hf
        obtain rfl:(rs,last)=rd:=by rw[<-af.out,Y.out]
        clear Y E K Hp hf;have aG:((kind.toNat:Int)==1)=false:=beq_eq_false_iff_ne.2 oMg;have aH:((kind.toNat:Int)==2)=false:=beq_eq_false_iff_ne.2 oMg;go_wp2_with fail
        (try rw[Exit.noGoto_ret])
        go_ret2
        exact⟨Ar,cr,xs,R,rfl,I,mG m5⟩
       ·have Y:Hid (j3 b=(rs,last)):=mY E.out Hp.out hf
        obtain rfl:(rs,last)=rd:=by rw[<-af.out,Y.out]
        clear Y E K Hp hf;have aG:((kind.toNat:Int)==3)=false:=beq_eq_false_iff_ne.2 oMg;have aH:((kind.toNat:Int)==4)=false:=beq_eq_false_iff_ne.2 oMg;go_wp2_with fail
        (try rw[Exit.noGoto_ret])
        go_ret2
        exact⟨Ar,cr,xs,R,rfl,I,mG m5⟩
      ·have Y:Hid (j3 b=(rs,last)):=mV E.out (by rw[K.out,U.out,if_pos (.inr (.inr hC))])
       obtain rfl:(rs,last)=rd:=by rw[<-af.out,Y.out]
       clear Y K;generalize (lH kind piece).toNat=sm at *;generalize sM a0 a1 a2 a3=wt at *;have aS:((sm:Int)!=(wt:Int))=true:=by rw[bne_iff_ne];omega
       clear hC;go_wp2_with fail
       refine HC.out.mono ?_;rintro e w5 ⟨rfl,m5⟩;go_wp2_with fail
       rw[ah.out]at m5
       (try rw[Exit.noGoto_ret])
       go_ret2
       exact⟨Ar,cr,xs,R,rfl,I,mG m5⟩
  ·have Y:Hid (j3 b=(rs,last)):=mV E.out (GO (by rw[az.out];omega))
   obtain rfl:(rs,last)=rd:=by rw[<-af.out,Y.out]
   go_wp2_with fail
   (try rw[Exit.noGoto_ret])
   go_ret2
   exact⟨Ar,cr,xs,R,rfl,I,mG m2⟩
end Go.Proofs.YtdfppjcaelghhaaGreatDoor
