/- The walk: it returns true and changes nothing. -/
import Derived.Test.YtdfppjcaelghhaaGreatDoorLawPG
set_option maxRecDepth 8000
set_option maxHeartbeats 32000000
namespace Go.Proofs.YtdfppjcaelghhaaGreatDoor
open Go.RowKit Go.Sl Go.Shelf
attribute [local go_sem] ab bj bh bd
theorem PB (a0:Option Addr)(I aW:Nat)(a1:Option Addr)(J aX:Nat)(hb:Bool)(w w0:World)(F:ba)(m:Mod w w0 F)(l0:List ob)(r0:ll F a0 I l0)(cK:I<=1048576)(l1:List ob)(r1:ll F a1 J l1)(dJ:J<=1048576)(tab:fX F)(av:qf F) :
 Calls Tryz.prog 4 #[.slice a0 I aW,.slice a1 J aX,.bool hb] w fun e w'=>e=.returned (.bool true)/\Mod w' w0 F:=by
 have R0:=zbj r0;have R1:=zbj r1;have T:=zbj tab;have D:=zbj av;have HL:=zbj (fun(u:World)(mu:Mod u w0 F)=>vK u w0 F mu tab av);have bN:=zbj (fun(u:World)(G:ba)(mu:Mod u w0 G)(s:Sub G F)=>vK u w0 G mu (tab.lift s) (av.lift s));have HO:=zbj (fun(u:World)(mu:Mod u w0 F)=>tX 8388608 (.inl rfl) u w0 F mu tab);have aR:=zbj (fun i=>Yl (Do l0 i) r0.sum);have aS:=zbj (fun i=>Yl (Do l1 i) r1.sum);clear r0 r1 tab av;go_enter Tryz.func4,Tryz.ntmps4
 go_wp2_with fail
 go_loopg [7,8] I (fun gk v7 v8 wr=>∃i s:Nat,i<=I/\gk=I-i/\Hid (s=nd l0 i)/\s<=1048576/\v7=.int .i64 ((i+s:Nat):Int)/\v8=.int .i64 (i:Int)/\Mod wr w0 F)
 case atStart=>exact⟨0,0,Zv _,rfl,zbj rfl,Zv _,rfl,rfl,m⟩
 case round =>
  obtain⟨i,s,hi,dH,hs,dK,rfl,rfl,mr⟩:=hrel;by_cases E:i<I
  ·skip
   have aa:(i:Int)<(I:Int):=by omega
   have aH:(0:Int)<=(i:Int):=by omega
   have B:i<l0.length:=by rw[R0.out.len];exact E
   obtain⟨b0,o0,rfl⟩:=pX (S:=F) mr R0.out E;have c0:=tJ R0.out B;have hx:=tE B;have X:=aR.out (i+1);have hw:=R0.out.each _ (Zq B);generalize l0[i]=x at *;obtain⟨xA,xc,O⟩:=x;have c0:bw F b0 (o0+i) (.slice xA O.length xc):=c0;have HX:=zbj (show nd l0 (i+1)=nd l0 i+O.length/\nd l0 (i+1)<=1048576 from ⟨hx,X⟩);have HW:=zbj hw;clear hx X hw B;have aL:O.length<=1048576:=by have:=HX.out;omega
   go_wp2_with fail
   go_roundg (I-(i+1))
   case measure=>omega
   case rel=>exact⟨i+1,s+O.length,E,rfl,by rw[HX.out.1,hs.out];exact zbj rfl,by have:=HX.out;have:=hs.out;omega,by go_num,by go_num,mr⟩
  ·have aa:¬(i:Int)<(I:Int):=by omega
   have bZ:i=I:=by omega
   subst bZ;have bD:=hs;clear hs;go_wp2_with fail
   go_loopg [7,9] J (fun gk v7 v9 wr=>∃j u:Nat,j<=J/\gk=J-j/\Hid (u=nd l1 j)/\u<=1048576/\v7=.int .i64 ((i+s+j+u:Nat):Int)/\v9=.int .i64 (j:Int)/\Mod wr w0 F)
   case atStart=>exact⟨0,0,Zv _,rfl,zbj rfl,Zv _,by go_num,rfl,mr⟩
   case round =>
    clear mr;obtain⟨j,u,hj,dG,hu,dL,rfl,rfl,mr⟩:=hrel;by_cases E:j<J
    ·skip
     have aa:(j:Int)<(J:Int):=by omega
     have aH:(0:Int)<=(j:Int):=by omega
     have B:j<l1.length:=by rw[R1.out.len];exact E
     obtain⟨b1,o1,rfl⟩:=pX (S:=F) mr R1.out E;have c0:=tJ R1.out B;have hx:=tE B;have X:=aS.out (j+1);have hw:=R1.out.each _ (Zq B);generalize l1[j]=x at *;obtain⟨xA,xc,O⟩:=x;have c0:bw F b1 (o1+j) (.slice xA O.length xc):=c0;have HX:=zbj (show nd l1 (j+1)=nd l1 j+O.length/\nd l1 (j+1)<=1048576 from ⟨hx,X⟩);have HW:=zbj hw;clear hx X hw B;have aL:O.length<=1048576:=by have:=HX.out;omega
     go_wp2_with fail
     go_roundg (J-(j+1))
     case measure=>omega
     case rel=>exact⟨j+1,u+O.length,E,rfl,by rw[HX.out.1,hu.out];exact zbj rfl,by have:=HX.out;have:=hu.out;omega,by go_num,by go_num,mr⟩
    ·have aa:¬(j:Int)<(J:Int):=by omega
     have cu:j=J:=by omega
     subst cu;by_cases dw:200<i+s+j+u
     ·have bW:((i+s+j+u:Nat):Int)>200:=by omega
      go_wp2_with (go_at_call 6;refine(HL.out _ mr).mono ?_;rintro ex w1 ⟨rfl,m1⟩)
      go_ret
      exact⟨rfl,m1⟩
     ·have bW:¬((i+s+j+u:Nat):Int)>200:=by omega
      go_wp2_with (go_at_call 7;refine(HO.out _ mr).mono ?_;rintro ex w1 ⟨p,e,v0,rfl,hN,h1⟩;refine Hid.out ?_)
      have HN:=zbj hN;have hA:uU e p v0 41 0 w0 F w1:=⟨v0,hN.rest.wide (Zm _) (Zm _),oc.refl v0,h1⟩;have dD:i+s+j+u<=200:=by omega
      have aY:s=nd l0 i:=bD.out;have aZ:u=nd l1 j:=hu.out;clear hN h1 hu bD mr;have aV:=zbj aZ;have aU:=zbj aY;clear aY aZ HL HO m;refine zbj ?_;go_wp2_with fail
      go_loopg [12] i (fun gk dh wr=>∃k r:Nat,k<=i/\gk=i-k/\Hid (r=nd l0 k)/\dh=.int .i64 (k:Int)/\uU e p v0 (41+64*k) r w0 F wr)
      case atStart=>exact⟨0,0,Zv _,rfl,zbj rfl,rfl,hA⟩
      case round =>
       clear hA;obtain⟨k,r,hk,dz,hr,rfl,hA⟩:=hrel;have mr:=hA.mod;by_cases E:k<i
       ·skip
        have aa:(k:Int)<(i:Int):=by omega
        have aH:(0:Int)<=(k:Int):=by omega
        have B:k<l0.length:=by rw[R0.out.len];exact E
        obtain⟨b0,o0,rfl⟩:=pX (S:=F) mr R0.out E;have c0:=tJ R0.out B;have hx:=tE B;have X:=aR.out (k+1);have hw:=R0.out.each _ (Zq B);generalize l0[k]=x at *;obtain⟨xA,xc,O⟩:=x;have c0:bw F b0 (o0+k) (.slice xA O.length xc):=c0;have HX:=zbj (show nd l0 (k+1)=nd l0 k+O.length/\nd l0 (k+1)<=1048576 from ⟨hx,X⟩);have HW:=zbj hw;clear hx X hw B;have aL:O.length<=1048576:=by have:=HX.out;omega
        have aJ:nd l0 (k+1)<=s:=by rw[aU.out];have h9:=R0.out.len;rw[<-h9];exact CA l0 (k+1)
        have aB:Hid (r+O.length<=200):=by have:=HX.out;have:=hr.out;exact zbj oMg
        have HA:=zbj hA;clear aJ hA;go_wp2_with (go_at_call 8;refine(Fs e p v0 (41+64*k) r ⟨xA,xc,O⟩ _ w0 F HA.out HN.out.size (by have:=aB.out;show r+O.length<=2300;omega) oMg HW.out.1 HW.out.2 T.out D.out).mono ?_;rintro ex w2 ⟨⟨y,z,rfl⟩,h2⟩;refine Hid.out ?_)
        have H2:=zbj h2;clear h2 mr HA c0;refine zbj ?_;go_wp2_with fail
        go_roundg (i-(k+1))
        case measure=>omega
        case rel=>exact⟨k+1,r+O.length,E,rfl,by rw[HX.out.1,hr.out];exact zbj rfl,by go_num,by have h9:=H2.out;rw[show 41+64*(k+1)=41+64*k+64 by omega];exact h9⟩
       ·have aa:¬(k:Int)<(i:Int):=by omega
        have cz:k=i:=by omega
        subst cz;have cZ:r=s:=by rw[hr.out,aU.out]
        subst cZ;clear hr mr;obtain⟨v1,aK,aI,h1⟩:=hA;have bV:v1.H=[]:=by rw[aI.H];exact HN.out.H
        have bg:v1.D.size=8388608:=aI.size.trans HN.out.size;obtain⟨W1,bn⟩:∃W1,v1.W=W1:=⟨_,rfl⟩;obtain⟨Y,ax⟩:∃Y,v1.seq=Y:=⟨_,rfl⟩;have dC:Y<=1000000:=by rw[<-ax];have:=aK.seq;omega
        have HS:=zbj (⟨aK,bn,ax,bg⟩:_/\_/\_/\_);have aT:=zbj (show ∀u,eV e p v1 w0 F u->Calls Tryz.prog 14 #[ap e] u fun en w'=>en=.returned (.int .u64 (Y:Int))/\eV e p v1 w0 F w' from fun u hu=>by have h9:=FZ e p v1 u w0 F hu;rw[ax]at h9;exact h9);have H1:=zbj h1;clear bV aK aI bn ax bg h1;go_wp2_with (go_at_call 14;refine(aT.out _ H1.out).mono ?_;rintro ex w2 ⟨rfl,h2⟩;refine Hid.out ?_)
        have H2:=zbj h2;clear h2 H1 aT;refine zbj ?_;go_upto_if 71 with fail
        go_cut []from 72 to 74 (fun wx=>∃v2,Hid (Pg hb Y W1 Y (41+64*k+1) r v2)/\eV e p v2 w0 F wx)
        case first =>
         cases hb with
         | false =>
           go_wp2_with fail
           go_meet
           exact⟨v1,⟨HS.out.1.wide oMg (Zm _),HS.out.2.1,HS.out.2.2.1,HS.out.2.2.2,fun h=>(by cases h)⟩,H2.out⟩
         | true =>
           go_wp2_with (go_at_call 9;refine(xp e p v1 (41+64*k) r 4 _ w0 F H2.out HS.out.1 oMg).mono ?_;rintro ex w3 ⟨rfl,H',q1,q2,q3,q4,q5⟩;refine Hid.out ?_)
           rw[HS.out.2.2.1]at q2;have HC:Hid (Pg true Y W1 Y (41+64*k+1) r {v1 with H:=H' }):=⟨q4,HS.out.2.1,HS.out.2.2.1,HS.out.2.2.2,fun _=>by show (U64.br H' Y).isSome=true;rw[q2];rfl⟩;have H3:=zbj q5;clear q1 q2 q3 q4 q5;refine zbj ?_;go_wp2_with fail
           go_meet
           exact⟨_,HC,H3.out⟩
        case rest =>
         obtain⟨v2,ah,h2⟩:=hcut;clear HS H2;obtain⟨R,hR⟩:∃R,jp v2 Y ⟨#[]⟩ zL=R:=⟨_,rfl⟩;have cB:R.length<=r:=by rw[<-hR];exact ah.out.rest.toEnCore.IL Y _ _
         have HR:=zbj hR;have H2:=zbj h2;have cO:r<=200:=by omega
         clear hR h2;go_wp2_with (go_at_call 10;refine(PD e p hb Y W1 Y _ r v2 _ w0 F H2.out ah.out oMg oMg T.out HR.out).mono ?_;rintro ex w4 ⟨A2,c2,rfl,h4⟩;refine Hid.out ?_)
         obtain⟨F1,ag,bC,h3⟩:∃F1,Sub F1 F/\oR F1 A2 R.length R/\eV e p v2 w0 F1 w4:=⟨_,zbk,(Aj A2 c2 R).lift zbk,h4⟩;have hA:uU e p v2 (41+64*k+1) r w0 F1 w4:=⟨v2,ah.out.rest,oc.refl v2,h3⟩;have aO:=zbj bC;clear bC h4 h3 H2;refine zbj ?_;go_wp2_with fail
         go_loopg [15] j (fun gk di wr=>∃f g:Nat,f<=j/\gk=j-f/\Hid (g=nd l1 f)/\di=.int .i64 (f:Int)/\uU e p v2 (41+64*k+1+64*f) (r+g) w0 F1 wr)
         case atStart=>exact⟨0,0,Zv _,rfl,zbj rfl,rfl,hA⟩
         case round =>
          clear hA;obtain⟨f,g,hf,dF,hg,rfl,hA⟩:=hrel;have mr:=hA.mod;by_cases E:f<j
          ·skip
           have aa:(f:Int)<(j:Int):=by omega
           have aH:(0:Int)<=(f:Int):=by omega
           have B:f<l1.length:=by rw[R1.out.len];exact E
           obtain⟨b1,o1,rfl⟩:=pX (S:=F) (Mod.sub F (m:=mr)) R1.out E;have c0:=tJ R1.out B;have hx:=tE B;have X:=aS.out (f+1);have hw:=R1.out.each _ (Zq B);generalize l1[f]=x at *;obtain⟨xA,xc,O⟩:=x;have c0:bw F b1 (o1+f) (.slice xA O.length xc):=c0;have HX:=zbj (show nd l1 (f+1)=nd l1 f+O.length/\nd l1 (f+1)<=1048576 from ⟨hx,X⟩);have HW:=zbj hw;clear hx X hw B;have aL:O.length<=1048576:=by have:=HX.out;omega
           have aJ:nd l1 (f+1)<=u:=by rw[aV.out];have h9:=R1.out.len;rw[<-h9];exact CA l1 (f+1)
           have aB:Hid (g+O.length<=u):=by have:=HX.out;have:=hg.out;exact zbj oMg
           have HA:=zbj hA;have c1:bw F1 b1 (o1+f) (.slice xA O.length xc):=bw.lift c0 ag;clear aJ hA c0;go_wp2_with (go_at_call 8;refine(Fs e p v2 (41+64*k+1+64*f) (r+g) ⟨xA,xc,O⟩ _ w0 F1 HA.out ah.out.size (by have:=aB.out;show r+g+O.length<=2300;omega) oMg (HW.out.1.lift ag) HW.out.2 (T.out.lift ag) (D.out.lift ag)).mono ?_;rintro ex w3 ⟨⟨y,z,rfl⟩,h2⟩;refine Hid.out ?_)
           have H2:=zbj h2;clear h2 mr HA c1;refine zbj ?_;go_wp2_with fail
           go_roundg (j-(f+1))
           case measure=>omega
           case rel=>exact⟨f+1,g+O.length,E,rfl,by rw[HX.out.1,hg.out];exact zbj rfl,by go_num,H2.out.wide oMg oMg⟩
          ·have aa:¬(f:Int)<(j:Int):=by omega
           have bX:f=j:=by omega
           subst bX;have bY:g=u:=by rw[hg.out,aV.out]
           subst bY;clear hg mr;obtain⟨W3,M,v3,bF,bq,h3⟩:=PJ ah.out hA;have af:=zbj bF;have bS:=zbj bq;obtain⟨bb,bu⟩:∃bb,41+64*k+1+64*f=bb:=⟨_,rfl⟩;have dn:bb<=100000:=by omega
           rw[bu]at af;have df:M<=1000000:=by rw[<-af.out.seq];have:=af.out.rest.seq;omega
           have H3:=zbj h3;obtain⟨R3,aG⟩:∃R3,jp v3 M ⟨#[]⟩ zL=R3:=⟨_,rfl⟩;have bK:R3.length<=r+g:=by rw[<-aG];exact af.out.rest.toEnCore.IL M _ _
           have aN:=zbj aG;clear hA bF bq bu h3 aG;go_wp2_with (go_at_call 14;refine(PE e p hb Y W3 M bb (r+g) v3 _ w0 F1 H3.out af.out).mono ?_;rintro ex w5 ⟨rfl,K⟩;refine Hid.out ?_)
           have U:=zbj K;clear K H3;refine zbj ?_;go_wp2_with (go_at_call 10;refine(PD e p hb Y W3 M bb (r+g) v3 _ w0 F1 U.out af.out oMg oMg (T.out.lift ag) aN.out).mono ?_;rintro ex w6 ⟨A6,c6,rfl,h6⟩;refine Hid.out ?_)
           obtain⟨F2,ae,az,ay,h7⟩:∃F2,Sub F2 F/\oR F2 A6 R3.length R3/\oR F2 A2 R.length R/\eV e p v3 w0 F2 w6:=⟨_,zbk,(Aj A6 c6 R3).lift zbk,aO.out.lift zbk,h6⟩;have aQ:=zbj az;have aP:=zbj ay;clear ay az h6 U aO;refine zbj ?_;go_wp2_with fail
           go_loopg [17,18,19] 2 (fun gk dm dM bJ wr=>∃(q:Nat)(v4:eN),q<=2/\gk=2-q/\dm=.int .i64 (q:Int)/\Hid (Pg hb Y W3 M (bb+48*q) (r+g) v4)/\eV e p v4 w0 F2 wr)
           case atStart=>exact⟨0,v3,Zv _,rfl,rfl,af,h7⟩
           case round =>
            clear h7;obtain⟨q,v4,hq,dI,rfl,bG,h4⟩:=hrel;by_cases E:q<2
            ·have aa:(q:Int)<2:=by omega
             have H4:=zbj h4;clear h4;go_wp2_with (go_at_call 11;refine(PG e p hb Y W3 M (bb+48*q) (r+g) v4 _ w0 F2 H4.out bG.out oMg oMg (T.out.lift ae)).mono ?_;rintro ex w7 ⟨rfl,v5,⟨bH,bE,bz⟩,K⟩;refine Hid.out ?_)
             have Z:=zbj bH;have bR:=zbj bE;have aM:=zbj bz;have U:=zbj K;have bP:Hid (jp v5 M ⟨#[]⟩ zL=R3):=(PN af.out Z.out _ _).trans aN.out;clear bH bE bz K H4 bG;refine zbj ?_;go_wp2_with (go_at_call 15;refine(PO e p M v5 _ w0 F2 U.out bR.out).mono ?_;rintro ex w8 ⟨rfl,K⟩;refine Hid.out ?_)
             clear U;have U:=zbj K;clear K;refine zbj ?_;go_wp2_with (go_at_call 14;refine(PE e p hb Y W3 M _ (r+g) v5 _ w0 F2 U.out Z.out).mono ?_;rintro ex w9 ⟨rfl,K⟩;refine Hid.out ?_)
             clear U;have U:=zbj K;clear K;refine zbj ?_;go_wp2_with (go_at_call 14;refine(PE e p hb Y W3 M _ (r+g) v5 _ w0 F2 U.out Z.out).mono ?_;rintro ex dN ⟨rfl,K⟩;refine Hid.out ?_)
             clear U;have U:=zbj K;clear K;refine zbj ?_;go_wp2_with (go_at_call 10;refine(PD e p hb Y W3 M _ (r+g) v5 _ w0 F2 U.out Z.out oMg oMg (T.out.lift ae) bP.out).mono ?_;rintro ex dO ⟨bL,bT,rfl,K⟩;refine Hid.out ?_)
             clear U;have V:=zbj (EV K (aQ.out.lift zbk) ((Aj bL bT R3).lift zbk) (by omega:R3.length<=1000000) R3.length R3.length);clear K;refine zbj ?_;go_wp2_with (go_at_call 12;refine V.out.mono ?_;rintro ex dP ⟨rfl,K⟩;refine Hid.out ?_)
             have U:=zbj K.drop;clear K V;refine zbj ?_;go_upto_region 33 with fail
             go_cut [124]from 116 to 125 (fun bI wx=>bI=.bool false/\eV e p v5 w0 F2 wx)
             case first =>
              cases hb with
              | false =>
                go_wp2_with fail
                go_meet
                exact⟨rfl,U.out⟩
              | true =>
                have bQ:Hid (jp v5 Y ⟨#[]⟩ zL=R):=(PP ah.out Z.out bS.out _ _).trans HR.out;go_wp2_with (go_at_call 10;refine(PF e p true Y W3 M _ (r+g) v5 _ w0 F2 U.out Z.out rfl oMg oMg (T.out.lift ae) bQ.out).mono ?_;rintro ex dQ ⟨bM,bU,rfl,K⟩;refine Hid.out ?_)
                have V:=zbj (EV K (aP.out.lift zbk) ((Aj bM bU R).lift zbk) (by omega:R.length<=1000000) R.length R.length);clear K U;refine zbj ?_;go_wp2_with (go_at_call 12;refine V.out.mono ?_;rintro ex dR ⟨rfl,K⟩;refine Hid.out ?_)
                have U:=zbj K.drop;clear K V;refine zbj ?_;go_wp2_with fail
                go_meet
                exact⟨rfl,U.out⟩
             case rest =>
              obtain⟨rfl,K⟩:=hcut;clear U;have U:=zbj K;clear K;go_wp2_with (go_at_call 16;refine(PI e p hb Y W3 M _ (r+g) v5 _ w0 F2 U.out Z.out).mono ?_;rintro ex dS ⟨au,aF,rfl,K⟩;refine Hid.out ?_)
              obtain⟨nf,ak⟩:∃nf,v5.k.files.length=nf:=⟨_,rfl⟩;have dB:nf<=100:=by rw[<-ak];have:=Z.out.rest.toEnCore.files;omega
              have bO:=zbj ak;have aD:=zbj (show du (kJ au aF v5.k.files*F2) au nf v5.k.files from by rw[<-ak];exact(kR au aF v5.k.files).lift zbk);rw[ak];have h8:=K;clear K U ak;refine zbj ?_;go_wp2_with fail
              go_loopg [19] nf (fun gk bJ wr=>∃f2:Nat,f2<=nf/\gk=nf-f2/\bJ=.int .i64 (f2:Int)/\eV e p v5 w0 (kJ au aF v5.k.files*F2) wr)
              case atStart=>exact⟨0,Zv _,rfl,rfl,h8⟩
              case round =>
               clear h8;obtain⟨f2,dE,dx,rfl,h8⟩:=hrel;by_cases aj:f2<nf
               ·have bB:(f2:Int)<(nf:Int):=by omega
                have dA:(0:Int)<=(f2:Int):=by omega
                have cK:(0:Int)<(nf:Int):=by omega
                have m8:=h8.mod;have B:f2<v5.k.files.length:=by rw[bO.out];exact aj
                have ai:0<v5.k.files.length:=by omega
                obtain⟨bf,of,rfl⟩:=j8 m8 aD.out aj;have k1:=(oL aD.out B).2.1;have q1:=(oL aD.out ai).2.1;rw[aM.out _ (Zq B)]at k1;rw[aM.out _ (Zq ai),Xj,Nat.add_zero]at q1;have H8:=zbj h8;clear B ai h8;go_wp2_with fail
                go_quiet (fail)
                go_wp2_with fail
                go_roundg (nf-(f2+1))
                case measure=>omega
                case rel=>exact⟨f2+1,aj,rfl,by go_num,by first | exact H8.out | exact H8.out.drew | exact H8.out.drewN _⟩
               ·have bB:¬(f2:Int)<(nf:Int):=by omega
                have H8:=zbj h8;clear h8;go_wp2_with fail
                go_roundg (2-(q+1))
                case measure=>omega
                case rel=>exact⟨q+1,v5,E,rfl,by go_num,by rw[show bb+48*(q+1)=bb+48*q+48 by omega];exact Z,H8.out.drop⟩
            ·have aa:¬(q:Int)<2:=by omega
             have m7:Mod _ w0 F2:=h4.mod;clear h4;go_wp2_with (go_at_call 6;refine(bN.out _ F2 m7 ae).mono ?_;rintro ex w8 ⟨rfl,m8⟩)
             go_ret
             exact⟨rfl,Mod.sub F (m:=m8)⟩
end Go.Proofs.YtdfppjcaelghhaaGreatDoor
