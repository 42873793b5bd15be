/- The walk of EnginesHeld: it returns true and changes nothing that was there; the conditions are in the theorem. -/
import Derived.Test.YtdfppjcaelghhaaGreatDoorLawPG
set_option maxRecDepth 8000
set_option maxHeartbeats 32000000
namespace Go.Proofs.YtdfppjcaelghhaaGreatDoor
open Go.RowKit Go.Sl Go.Shelf
attribute [local go_sem] ab bj bh bd
theorem wD (a0:Option Addr)(I aL:Nat)(a1:Option Addr)(J aM:Nat)(kk:Int)(w w0:World)(F:ba)(m:Mod w w0 F)(hk:(Lit.int .u8 kk).wf=true)(l0:List ob)(r0:ll F a0 I l0)(dn:I<=1048576)(l1:List ob)(r1:ll F a1 J l1)(dw:J<=1048576)(tab:fX F)(ah:qf F) :
 Calls Tryz.prog 3 #[.slice a0 I aL,.slice a1 J aM,.int .u8 kk] w fun e w'=>e=.returned (.bool true)/\Mod w' w0 F:=by
 have R0:=zbj r0;have R1:=zbj r1;have T:=zbj tab;have D:=zbj ah;have HL:=zbj (fun(u:World)(mu:Mod u w0 F)=>vK u w0 F mu tab ah);have aD:=zbj (fun(u:World)(G:ba)(mu:Mod u w0 G)(s:Sub G F)=>vK u w0 G mu (tab.lift s) (ah.lift s));have HO:=zbj (fun(u:World)(mu:Mod u w0 F)=>tX 8388608 (.inl rfl) u w0 F mu tab);have aG:=zbj (fun i=>Yl (Do l0 i) r0.sum);have aH:=zbj (fun i=>Yl (Do l1 i) r1.sum);clear r0 r1 tab ah;obtain⟨t,rfl,ht⟩:=OZ hk;clear hk;obtain⟨K,hK⟩:∃K:Nat,t%4=K:=⟨_,rfl⟩;have cO:K<4:=by omega
 have cK:((t:Int)%4)=(K:Int):=by omega
 clear hK;go_enter Tryz.func3,Tryz.ntmps3
 go_wp2_with fail
 go_loopg [7,8] I (fun gk v7 v8 wr=>∃i s:Nat,i<=I/\gk=I-i/\Hid (s=nd l0 i)/\s<=1048576/\v7=.int .i64 ((i+s:Nat):Int)/\v8=.int .i64 (i:Int)/\Mod wr w0 F)
 case atStart=>exact⟨0,0,Zv _,rfl,zbj rfl,Zv _,rfl,rfl,m⟩
 case round =>
  obtain⟨i,s,hi,di,hs,dx,rfl,rfl,mr⟩:=hrel;by_cases B:i<I
  ·skip
   have U:(i:Int)<(I:Int):=by omega
   have ak:(0:Int)<=(i:Int):=by omega
   have E:i<l0.length:=by rw[R0.out.len];exact B
   obtain⟨b0,o0,rfl⟩:=pX (S:=F) mr R0.out B;have c0:=tJ R0.out E;have hx:=tE E;have V:=aG.out (i+1);have hw:=R0.out.each _ (Zq E);generalize l0[i]=x at *;obtain⟨xA,xc,M⟩:=x;have c0:bw F b0 (o0+i) (.slice xA M.length xc):=c0;have HX:=zbj (show nd l0 (i+1)=nd l0 i+M.length/\nd l0 (i+1)<=1048576 from ⟨hx,V⟩);have HW:=zbj hw;clear hx V hw E;have aB:M.length<=1048576:=by have:=HX.out;omega
   go_wp2_with fail
   go_roundg (I-(i+1))
   case measure=>omega
   case rel=>exact⟨i+1,s+M.length,B,rfl,by rw[HX.out.1,hs.out];exact zbj rfl,by have:=HX.out;have:=hs.out;omega,by go_num,by go_num,mr⟩
  ·have U:¬(i:Int)<(I:Int):=by omega
   have bI:i=I:=by omega
   subst bI;have aZ:=hs;clear hs;go_wp2_with fail
   go_loopg [7,9] J (fun gk v7 v9 wr=>∃j u:Nat,j<=J/\gk=J-j/\Hid (u=nd l1 j)/\u<=1048576/\v7=.int .i64 ((i+s+j+u:Nat):Int)/\v9=.int .i64 (j:Int)/\Mod wr w0 F)
   case atStart=>exact⟨0,0,Zv _,rfl,zbj rfl,Zv _,by go_num,rfl,mr⟩
   case round =>
    clear mr;obtain⟨j,u,hj,dh,hu,dz,rfl,rfl,mr⟩:=hrel;by_cases B:j<J
    ·skip
     have U:(j:Int)<(J:Int):=by omega
     have ak:(0:Int)<=(j:Int):=by omega
     have E:j<l1.length:=by rw[R1.out.len];exact B
     obtain⟨b1,o1,rfl⟩:=pX (S:=F) mr R1.out B;have c0:=tJ R1.out E;have hx:=tE E;have V:=aH.out (j+1);have hw:=R1.out.each _ (Zq E);generalize l1[j]=x at *;obtain⟨xA,xc,M⟩:=x;have c0:bw F b1 (o1+j) (.slice xA M.length xc):=c0;have HX:=zbj (show nd l1 (j+1)=nd l1 j+M.length/\nd l1 (j+1)<=1048576 from ⟨hx,V⟩);have HW:=zbj hw;clear hx V hw E;have aB:M.length<=1048576:=by have:=HX.out;omega
     go_wp2_with fail
     go_roundg (J-(j+1))
     case measure=>omega
     case rel=>exact⟨j+1,u+M.length,B,rfl,by rw[HX.out.1,hu.out];exact zbj rfl,by have:=HX.out;have:=hu.out;omega,by go_num,by go_num,mr⟩
    ·have U:¬(j:Int)<(J:Int):=by omega
     have bJ:j=J:=by omega
     subst bJ;by_cases bX:200<i+s+j+u
     ·have bE:((i+s+j+u:Nat):Int)>200:=by omega
      go_wp2_with (go_at_call 6;refine(HL.out _ mr).mono ?_;rintro ex w1 ⟨rfl,m1⟩)
      go_ret
      exact⟨rfl,m1⟩
     ·have bE:¬((i+s+j+u:Nat):Int)>200:=by omega
      go_wp2_with (go_at_call 7;refine(HO.out _ mr).mono ?_;rintro ex w1 ⟨p,e,v0,rfl,hN,h1⟩;refine Hid.out ?_)
      have HN:=zbj hN;have hA:uU e p v0 41 0 w0 F w1:=⟨v0,hN.rest.wide (Zm _) (Zm _),oc.refl v0,h1⟩;have cZ:i+s+j+u<=200:=by omega
      have aQ:s=nd l0 i:=aZ.out;have aR:u=nd l1 j:=hu.out;clear hN h1 hu aZ mr;have aK:=zbj aR;have aJ:=zbj aQ;clear aQ aR HL HO m;refine zbj ?_;go_wp2_with fail
      go_loopg [12] i (fun gk bR wr=>∃k r:Nat,k<=i/\gk=i-k/\Hid (r=nd l0 k)/\bR=.int .i64 (k:Int)/\uU e p v0 (41+64*k) r w0 F wr)
      case atStart=>exact⟨0,0,Zv _,rfl,zbj rfl,rfl,hA⟩
      case round =>
       clear hA;obtain⟨k,r,hk,bY,hr,rfl,hA⟩:=hrel;have mr:=hA.mod;by_cases B:k<i
       ·skip
        have U:(k:Int)<(i:Int):=by omega
        have ak:(0:Int)<=(k:Int):=by omega
        have E:k<l0.length:=by rw[R0.out.len];exact B
        obtain⟨b0,o0,rfl⟩:=pX (S:=F) mr R0.out B;have c0:=tJ R0.out E;have hx:=tE E;have V:=aG.out (k+1);have hw:=R0.out.each _ (Zq E);generalize l0[k]=x at *;obtain⟨xA,xc,M⟩:=x;have c0:bw F b0 (o0+k) (.slice xA M.length xc):=c0;have HX:=zbj (show nd l0 (k+1)=nd l0 k+M.length/\nd l0 (k+1)<=1048576 from ⟨hx,V⟩);have HW:=zbj hw;clear hx V hw E;have aB:M.length<=1048576:=by have:=HX.out;omega
        have av:nd l0 (k+1)<=s:=by rw[aJ.out];have h9:=R0.out.len;rw[<-h9];exact CA l0 (k+1)
        have af:Hid (r+M.length<=200):=by have:=HX.out;have:=hr.out;exact zbj (by omega)
        have HA:=zbj hA;clear av hA;go_wp2_with (go_at_call 8;refine(Fs e p v0 (41+64*k) r ⟨xA,xc,M⟩ _ w0 F HA.out HN.out.size (by have:=af.out;show r+M.length<=2300;omega) (by omega) HW.out.1 HW.out.2 T.out D.out).mono ?_;rintro ex w2 ⟨⟨y,z,rfl⟩,h2⟩;refine Hid.out ?_)
        have H2:=zbj h2;clear h2 mr HA c0;refine zbj ?_;go_wp2_with fail
        go_roundg (i-(k+1))
        case measure=>omega
        case rel=>exact⟨k+1,r+M.length,B,rfl,by rw[HX.out.1,hr.out];exact zbj rfl,by go_num,by have h9:=H2.out;rw[show 41+64*(k+1)=41+64*k+64 by omega];exact h9⟩
       ·have U:¬(k:Int)<(i:Int):=by omega
        have bK:k=i:=by omega
        subst bK;have bP:r=s:=by rw[hr.out,aJ.out]
        subst bP;clear hr mr;obtain⟨v1,az,au,h1⟩:=hA;have aO:v1.H=[]:=by rw[au.H];exact HN.out.H
        have hV:ns v1.W v1.seq v1.seq 0 (41+64*k) r v1:=⟨az,rfl,rfl,au.size.trans HN.out.size,by rw[aO];rfl⟩;obtain⟨W1,aS⟩:∃W1,v1.W=W1:=⟨_,rfl⟩;obtain⟨sq,ay⟩:∃sq,v1.seq=sq:=⟨_,rfl⟩;have cz:sq<=1000000:=by rw[<-ay];have:=az.seq;omega
        rw[aS,ay]at hV;clear aO az au aS ay;have HV:=zbj hV;clear hV;go_wp2_with fail
        go_loopg [14,15] (K+1) (fun gk bS bT wr=>∃(q a:Nat)(v:eN),q<=K+1/\gk=K+1-q/\(1<=q->a=sq)/\bS=.int .u64 (a:Int)/\bT=.int .i64 (q:Int)/\Hid (ns W1 sq sq q (41+64*k+q) r v)/\eV e p v w0 F wr)
        case atStart=>exact⟨0,0,v1,Zv _,rfl,fun h=>(by omega),rfl,rfl,HV,h1⟩
        case round =>
         clear h1;obtain⟨q,a,v,hq,dm,ha,rfl,rfl,hv,h1⟩:=hrel;by_cases B:q<K+1
         ·have U:(q:Int)<1+(K:Int):=by omega
          have H1:=zbj h1;clear h1;go_wp2_with (go_at_call 9;refine(MV e p W1 sq q (41+64*k+q) r v _ w0 F H1.out hv.out (by omega)).mono ?_;rintro ex w2 ⟨rfl,v2,ae,h2⟩;refine Hid.out ?_)
          have bz:=zbj ae;have H2:=zbj h2;clear ae h2 H1;refine zbj ?_;go_wp2_with fail
          go_roundg (K+1-(q+1))
          case measure=>omega
          case rel=>exact⟨q+1,sq,v2,B,rfl,fun _=>rfl,rfl,by go_num,bz,H2.out⟩
         ·have U:¬(q:Int)<1+(K:Int):=by omega
          have ax:q=K+1:=by omega
          have bD:=ha (by omega);subst bD ax;clear ha HV;obtain⟨R,hR⟩:∃R,jp v a ⟨#[]⟩ zL=R:=⟨_,rfl⟩;have bM:R.length<=r:=by rw[<-hR];exact hv.out.rest.toEnCore.IL a _ _
          have HR:=zbj hR;have H1:=zbj h1;have bO:r<=200:=by omega
          clear hR h1;go_wp2_with (go_at_call 10;refine(La e p W1 a a K _ r v _ w0 F H1.out hv.out (by omega) (by omega) T.out HR.out).mono ?_;rintro ex w2 ⟨A2,c2,rfl,h2⟩;refine Hid.out ?_)
          obtain⟨X,O,aY,h3⟩:∃X,Sub X F/\oR X A2 R.length R/\eV e p v w0 X w2:=⟨_,zbk,(Aj A2 c2 R).lift zbk,h2⟩;have hA:uU e p v (41+64*k+(K+1)) r w0 X w2:=⟨v,hv.out.rest,oc.refl v,h3⟩;have bu:=zbj aY;clear aY h2 h3 H1;refine zbj ?_;go_wp2_with fail
          go_loopg [17] j (fun gk bU wr=>∃f g:Nat,f<=j/\gk=j-f/\Hid (g=nd l1 f)/\bU=.int .i64 (f:Int)/\uU e p v (41+64*k+(K+1)+112*f) (r+g) w0 X wr)
          case atStart=>exact⟨0,0,Zv _,rfl,zbj rfl,rfl,hA⟩
          case round =>
           clear hA;obtain⟨f,g,hf,df,hg,rfl,hA⟩:=hrel;have mr:=hA.mod;by_cases B:f<j
           ·skip
            have U:(f:Int)<(j:Int):=by omega
            have ak:(0:Int)<=(f:Int):=by omega
            have E:f<l1.length:=by rw[R1.out.len];exact B
            obtain⟨b1,o1,rfl⟩:=pX (S:=F) (Mod.sub F (m:=mr)) R1.out B;have c0:=tJ R1.out E;have hx:=tE E;have V:=aH.out (f+1);have hw:=R1.out.each _ (Zq E);generalize l1[f]=x at *;obtain⟨xA,xc,M⟩:=x;have c0:bw F b1 (o1+f) (.slice xA M.length xc):=c0;have HX:=zbj (show nd l1 (f+1)=nd l1 f+M.length/\nd l1 (f+1)<=1048576 from ⟨hx,V⟩);have HW:=zbj hw;clear hx V hw E;have aB:M.length<=1048576:=by have:=HX.out;omega
            have av:nd l1 (f+1)<=u:=by rw[aK.out];have h9:=R1.out.len;rw[<-h9];exact CA l1 (f+1)
            have af:Hid (g+M.length<=u):=by have:=HX.out;have:=hg.out;exact zbj (by omega)
            have HA:=zbj hA;have c1:bw X b1 (o1+f) (.slice xA M.length xc):=bw.lift c0 O;clear av hA c0;go_wp2_with (go_at_call 8;refine(Fs e p v (41+64*k+(K+1)+112*f) (r+g) ⟨xA,xc,M⟩ _ w0 X HA.out hv.out.size (by have:=af.out;show r+g+M.length<=2300;omega) (by omega) (HW.out.1.lift O) HW.out.2 (T.out.lift O) (D.out.lift O)).mono ?_;rintro ex w3 ⟨⟨y,z,rfl⟩,h2⟩;refine Hid.out ?_)
            have H2:=zbj h2;clear h2 mr HA c1;refine zbj ?_;by_cases cB:f%3=2
            ·have aN:((f:Int)%3=2):=by omega
             go_wp2_with (go_at_call 11;refine(FQ e p v (41+64*k+(K+1)+112*f+64) (r+g+M.length) _ w0 X H2.out hv.out.size (by have:=af.out;omega) (by omega) (T.out.lift O)).mono ?_;rintro ex w4 ⟨rfl,h4⟩;refine Hid.out ?_)
             have H4:=zbj h4;clear h4 H2;refine zbj ?_;go_wp2_with fail
             go_roundg (j-(f+1))
             case measure=>omega
             case rel=>exact⟨f+1,g+M.length,B,rfl,by rw[HX.out.1,hg.out];exact zbj rfl,by go_num,H4.out.wide (by omega) (by omega)⟩
            ·have aN:¬((f:Int)%3=2):=by omega
             go_wp2_with fail
             go_roundg (j-(f+1))
             case measure=>omega
             case rel=>exact⟨f+1,g+M.length,B,rfl,by rw[HX.out.1,hg.out];exact zbj rfl,by go_num,H2.out.wide (by omega) (by omega)⟩
           ·have U:¬(f:Int)<(j:Int):=by omega
            have bG:f=j:=by omega
            subst bG;have bH:g=u:=by rw[hg.out,aK.out]
            subst bH;clear hg mr;obtain⟨W2,Z,v2,ae,aT,cu,h2⟩:=Gl hv.out hA;have ag:=zbj ae;have bC:=zbj aT;obtain⟨bb,aU⟩:∃bb,41+64*k+(K+1)+112*f=bb:=⟨_,rfl⟩;have bW:bb<=100000:=by omega
            rw[aU]at ag;have bQ:Z<=1000000:=by rw[<-ag.out.seq];have:=ag.out.rest.seq;omega
            clear hA ae aT aU;go_wp2_with fail
            go_loopg [18] (K+1) (fun gk bV wr=>∃(q:Nat)(v3:eN),q<=K+1/\gk=K+1-q/\bV=.int .i64 (q:Int)/\Hid (ns W2 Z a (K+1-q) bb (r+g) v3)/\eV e p v3 w0 X wr)
            case atStart=>exact⟨0,v2,Zv _,rfl,rfl,ag,h2⟩
            case round =>
             clear h2;obtain⟨q,v3,hq,bZ,rfl,Y,h3⟩:=hrel;by_cases B:q<K+1
             ·have U:(q:Int)<1+(K:Int):=by omega
              have H3:=zbj h3;obtain⟨c3,bF⟩:∃c3,K-q=c3:=⟨_,rfl⟩;have ai:K+1-q=c3+1:=by omega
              have aV:K+1-(q+1)=c3:=by omega
              rw[ai]at Y;have bg:=zbj aV;have aP:jp v3 a ⟨#[]⟩ zL=R:=(JA hv.out Y.out bC.out _ _).trans HR.out;have bq:=zbj aP;clear h3 bF ai aV aP;go_wp2_with (go_at_call 10;refine(La e p W2 Z a c3 bb (r+g) v3 _ w0 X H3.out Y.out (by omega) (by omega) (T.out.lift O) bq.out).mono ?_;rintro ex w4 ⟨A4,c4,rfl,h4⟩;refine Hid.out ?_)
              have m4:=h4.mod;have H4:=zbj h4;clear H3;have aa:=zbj (EV h4 (bu.out.lift zbk) ((Aj A4 c4 R).lift zbk) (by omega:R.length<=1000000) R.length R.length);clear h4 m4;refine zbj ?_;go_wp2_with (go_at_call 12;refine aa.out.mono ?_;rintro ex w5 ⟨rfl,h5⟩;refine Hid.out ?_)
              have H5:=zbj h5.drop;clear h5 aa H4;refine zbj ?_;go_wp2_with (go_at_call 13;refine(N7 e p W2 Z a c3 bb (r+g) v3 _ w0 X H5.out Y.out (by omega)).mono ?_;rintro ex w6 ⟨rfl,v6,bf,h6⟩;refine Hid.out ?_)
              have bB:=zbj bf;have H6:=zbj h6;clear bf h6 H5;refine zbj ?_;go_wp2_with fail
              go_roundg (K+1-(q+1))
              case measure=>omega
              case rel=>exact⟨q+1,v6,B,rfl,by go_num,by rw[bg.out];exact bB,H6.out⟩
             ·have U:¬(q:Int)<1+(K:Int):=by omega
              have ax:q=K+1:=by omega
              subst ax;rw[zae]at Y;have H3:=zbj h3;have aW:=Y.out.none;have aF:=zbj aW;have aj:v3.seq=Z:=Y.out.seq;have aI:=zbj (show ∀u,eV e p v3 w0 X u->Calls Tryz.prog 14 #[ap e] u fun en w'=>en=.returned (.int .u64 (Z:Int))/\eV e p v3 w0 X w' from fun u hu=>by have h9:=FZ e p v3 u w0 X hu;rw[aj]at h9;exact h9);clear h3 aW aj;go_wp2_with (go_at_call 13;refine(za e p a v3 _ w0 X H3.out aF.out).mono ?_;rintro ex w4 ⟨rfl,h4⟩;refine Hid.out ?_)
              have H4:=zbj h4;clear h4 H3;refine zbj ?_;by_cases bL:a<Z
              ·have bN:(a:Int)<(Z:Int):=by omega
               have aX:jB v3 a=false:=by unfold jB;rw[aF.out,Y.out.seq];simp;omega
               have bn:=zbj aX;clear aX;go_wp2_with (go_at_call 14;refine(aI.out _ H4.out).mono ?_;rintro ex w5 ⟨rfl,h5⟩;refine Hid.out ?_)
               have H5:=zbj h5;clear h5 H4;refine zbj ?_;go_wp2_with (go_at_call 10;refine(Jm e p a v3 bb (r+g) 4 _ _ 1000 _ w0 X H5.out Y.out.rest bn.out).mono ?_;rintro ex w6 ⟨rfl,h6⟩;refine Hid.out ?_)
               have m6:Mod w6 w0 X:=h6.mod;clear h6 H5;refine zbj ?_;go_wp2_with (go_at_call 6;refine(aD.out _ X m6 O).mono ?_;rintro ex w7 ⟨rfl,m7⟩)
               go_ret
               exact⟨rfl,Mod.sub F (m:=m7)⟩
              ·have bN:¬(a:Int)<(Z:Int):=by omega
               go_wp2_with (go_at_call 14;refine(aI.out _ H4.out).mono ?_;rintro ex w5 ⟨rfl,h5⟩;refine Hid.out ?_)
               have m5:Mod w5 w0 X:=h5.mod;clear h5 H4;refine zbj ?_;go_wp2_with (go_at_call 6;refine(aD.out _ X m5 O).mono ?_;rintro ex w7 ⟨rfl,m7⟩)
               go_ret
               exact⟨rfl,Mod.sub F (m:=m7)⟩
end Go.Proofs.YtdfppjcaelghhaaGreatDoor
