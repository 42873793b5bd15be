/- Plain lemmas and contracts; the conditions are in each. -/
import Derived.Test.YtdfppjcaelghhaaGreatDoorEnHG
set_option maxRecDepth 8000
set_option maxHeartbeats 8000000
namespace Go.Proofs.YtdfppjcaelghhaaGreatDoor
open Go.RowKit Go.Sl
attribute [local go_sem] ab bj bh bd
theorem bp.rest {S:ba}{A:Option Addr}{n:Nat}{l:List ao}(r:bp S A n l){c i:Nat}(h:i<=n)(z:n<=c):bp S (if c=i then A else A.map (·.add (i*4))) (n-i) (l.drop i):=by
 have B:=r.len;by_cases e:c=i
 ·rw[if_pos e,show n-i=0 by omega,Yj oMg]
  exact bp.jE _
 ·rw[if_neg e]
  have y:=r.part i (n-i) oMg
  rwa [Zn (by rw[ZF];omega)]at y
def pQ (cs:List (List ao)):Nat:=(cs.map fun c=>(cq c).length).sum
structure yG (D:aq)(cs:List (List ao)):Prop where
 many:D.now.length+cs.length<=63
 bytes:eh D.files D.now+pQ cs<=D.size
theorem yG.next {D z:aq}{nm:ByteArray}{c:List ao}{cs:List (List ao)}(h:yG D (c::cs))(y:cJ D)(p:yF D nm (cq c) z):yG z cs:=by
 have B:=h.many;have E:=h.bytes;have I:=p.many;have J:=p.total y;have K:=p.get.1;rw[List.length_cons]at B;simp only[pQ,Zy,List.sum_cons]at E;exact⟨oMg,by show _+pQ cs≤_;unfold pQ;omega⟩
def D8 (D:aq)(nm:ByteArray):aq:={D with now:=cG D.now nm}
def g9 (D:aq)(nm:ByteArray)(g:Nat)(f:dr):aq:={D with now:=cV (cG D.now nm) nm g,files:=(g,f)::D.files}
theorem pI {D:aq}{nm:ByteArray}{g:Nat}{f:dr}:br (g9 D nm g f).now nm=some g/\cw (g9 D nm g f).files g=some f:=by
 refine⟨?_,by simp[g9,cw]⟩;show br (cV (cG D.now nm) nm g) nm=_;rw[fN,if_pos rfl]
theorem xB (D:aq)(nm:ByteArray)(g:Nat)(f y:dr):({g9 D nm g f with files:=iS (g9 D nm g f).files g y}:aq)=g9 D nm g y:=by
 simp[g9,iS]
theorem zQ (p:Nat)(D:aq)(nm:ByteArray)(hn:eo nm=true)(z:nm.size<=9223372036854775807)(y:D.now.length<64)(w w0:World)(F:ba)(m:Mod w w0 (bv p (D8 D nm)*F)) :
 Calls Tryz.prog 118 #[ap p,.string nm] w fun e B=>∃g,e=.returned (.int .i64 0)/\cw D.files g=none/\Mod B w0 (bv p (g9 D nm g ⟨[],0⟩)*F):=by
 have h:=(kT D.now nm).length_le;exact wy p (D8 D nm) nm w w0 _ F m ⟨rfl⟩ z hn (kz _ _) (by show (cG D.now nm).length<64;omega)
theorem zP (p:Nat)(D:aq)(nm:ByteArray)(hn:eo nm=true)(K:nm.size<=9223372036854775807)(g:Nat)(A':Option Addr)(c:Nat)(b:List UInt8)(I:cw D.files g=none)(U:eh D.files D.now+b.length<=D.size)(E:b.length<=1048576)(w w0:World)(F:ba)(m:Mod w w0 (bv p (g9 D nm g ⟨[],0⟩)*F))(r:bk F A' b.length (b7 b))(y:cJ D) :
 Calls Tryz.prog 79 #[ap p,.string nm,.slice A' b.length c] w fun e M=>e=.returned (.int .i64 0)/\Mod M w0 (bv p (g9 D nm g ⟨b,0⟩)*F):=by
 have O:=CC D.files (kT D.now nm);have z:=tH (D:=D8 D nm) (f:=⟨[],0⟩) (gI y nm) (kz _ _) I
 have J:b.length<=leftOf (g9 D nm g ⟨[],0⟩):=by
  show b.length<=D.size-eh ((g,⟨[],0⟩)::D.files) (cV (cG D.now nm) nm g);have B:eh ((g,⟨[],0⟩)::D.files) (cV (cG D.now nm) nm g)=eh D.files (cG D.now nm)+0:=z;omega
 have h:=wq p (g9 D nm g ⟨[],0⟩) nm w w0 _ F m ⟨rfl⟩ K A' c b (r:=r) g ⟨[],0⟩ hn pI.1 pI.2 J (by show 0+b.length≤_;omega);rw[xB]at h;exact h
theorem Ei (p:Nat)(D:aq)(nm:ByteArray)(hn:eo nm=true)(y:nm.size<=9223372036854775807)(g:Nat)(b:List UInt8)(w w0:World)(F:ba)(m:Mod w w0 (bv p (g9 D nm g ⟨b,0⟩)*F)) :
 Calls Tryz.prog 92 #[ap p,.string nm] w fun e z=>e=.returned (.int .i64 0)/\Mod z w0 (bv p (g9 D nm g ⟨b,b.length⟩)*F):=by
 have h:=wX p (g9 D nm g ⟨b,0⟩) nm w w0 _ F m ⟨rfl⟩ y g ⟨b,0⟩ hn pI.1 pI.2;rw[xB]at h;exact h
theorem xz {D:aq}{nm:ByteArray}{g:Nat}{b:List UInt8}(y:cw D.files g=none):yF D nm b (g9 D nm g ⟨b,b.length⟩):=⟨g,y,rfl⟩
theorem Cj (e p:Nat)(x1 x2 x3 x4 x5 x6:Value)(D:aq)(A:Option Addr)(N c:Nat)(l:List ao)(lv:Int)(num:Nat)(aJ:∀x∈l,fS x)(aZ:fc l)(hN:N<=c)(bg:∀c∈dl l,c.length<=4096/\(cq c).length<=1048576)(bL:num+(dl l).length<4294967296)(bf:yG D (dl l))
 (w w0:World) (F:ba) (m:Mod w w0 (bv p D*(jT e p x1 x2 x3 x4 x5 x6*F))) (r:bp F A N l) (tab:fX F) (dJ:N<=1000000000) :
 Calls Tryz.prog 70 #[ap e,.slice A N c,.int .i64 lv,.int .u32 (num:Int)] w fun en w'=>∃A' c' D',en=.returned (.slice A' (dl l).length c')/\(dl l).length<=c'/\qQ D num (dl l) D'/\Mod w' w0 (bv p {D' with sure:=D'.now}*(ar 44 4 (.slice A' (dl l).length c') (dl l).length ((cX lv num (dl l)).flatMap bi.cells)*(jT e p x1 x2 x3 x4 x5 x6*F))):=by
 have T:=zbj tab;have R:=zbj r;have HK:=zbj aJ;have HS:=zbj bg;have dL:=r.len;have HR:=zbj bf;have aN:=zbj aZ;have bJ:=zbj bL;clear tab r aJ bg bf aZ bL;go_enter Tryz.func70,Tryz.ntmps70
 go_wp2_with fail
 have m1:=ey (e:=44) (size:=4) m;go_loopg [1,3,8] N (fun gk v1 v3 v8 wr=>∃(ls:List ao)(done:List (List ao))(AL:Option Addr)(E cL:Nat)(Ar:Option Addr)(nr cr q:Nat)(B:aq),gk=E/\v1=.slice AL E cL/\v3=.int .u32 (q:Int)/\v8=.slice Ar nr cr/\E<=cL/\E<=N/\nr<=cr/\Hid (q=num+nr)/\Hid (done.length=nr)/\Hid (ls <:+ l)/\Hid (dl l=done++dl ls)/\Hid (bp F AL E ls)/\Hid (qQ D num done B)/\Hid (yG B (dl ls))/\Mod wr w0 (ar 44 4 (.slice Ar nr cr) nr ((cX lv num done).flatMap bi.cells)*(bv p B*(jT e p x1 x2 x3 x4 x5 x6*F))))
 case atStart=>exact⟨l,[],A,N,c,none,0,0,num,D,rfl,rfl,rfl,rfl,hN,Zm _,Zm _,rfl,rfl,List.suffix_rfl,rfl,R.out,.nil _ _,HR.out,m1⟩
 case round =>
  obtain⟨ls,done,AL,E,cL,Ar,nr,cr,q,B,dK,rfl,rfl,rfl,dI,dH,di,Hq,Z,bM,ah,M,bH,av,m2⟩:=hrel;by_cases bY:0<E
  ·have dh:(0:Int)<(E:Int):=oMg
   have cK:=M.out.len;obtain⟨b,o,rfl⟩:∃b o,AL=some ⟨b,o,none⟩:=gw m2 (M.out.lift zbk) bY;go_wp2_with fail
   have bW:min (E:Int) 1024=((min E 1024:Nat):Int):=oMg
   rw[bW];have cz:Hid (grow ls (min E 1024)=ld ls):=by show _=_;rw[<-cK];rfl
   have bX:0<min E 1024:=oMg
   have cZ:min E 1024<=E:=Xq _ _;generalize min E 1024=n0 at *;clear bW;have dN:E<=1000000000:=oMg
   go_loopg [9] (E-n0) (fun gk v9 dG=>∃n:Nat,gk=E-n/\v9=.int .i64 n/\0<n/\n<=E/\Hid (grow ls n=ld ls)/\Mod dG w0 (ar 44 4 (.slice Ar nr cr) nr ((cX lv num done).flatMap bi.cells)*(bv p B*(jT e p x1 x2 x3 x4 x5 x6*F))))
   case atStart=>exact⟨n0,rfl,rfl,bX,cZ,cz,m2⟩
   case round =>
    obtain⟨n,bK,rfl,dO,bQ,aP,m3⟩:=hrel;by_cases dM:n<E
    ·have hd:decide ((n:Int)<(E:Int))=true:=decide_eq_true oMg
     have ag:n<ls.length:=oMg
     have U:n-1<ls.length:=oMg
     have ck:=(jc M.out ag).1;have aj:=(jc M.out U).1;have hk:=kc ag;have Y:=kc U;obtain⟨ka,bU⟩:∃ka,ls[n].key=ka:=⟨_,rfl⟩;obtain⟨kb,bV⟩:∃kb,ls[n-1].key=kb:=⟨_,rfl⟩;rw[bU]at ck hk;rw[bV]at aj Y;have aX:((n-1:Nat):Int)=(n:Int)-1:=oMg
     have au:(n:Int)-1<(E:Int):=oMg
     have ae:(0:Int)<=(n:Int)-1:=oMg
     clear bU bV ag U;by_cases aW:ka=kb
     ·have ai:Hid (grow ls (n+1)=ld ls):=(Is oMg (by rw[hk,Y,aW])).symm.trans aP.out
      clear hk Y;subst aW;go_wp2_with fail
      go_quiet (fail)
      go_wp2_with fail
      go_roundg (E-(n+1))
      case measure=>omega
      case rel=>exact⟨n+1,rfl,rfl,oMg,oMg,ai,Mod.drewN (m:=m3) _⟩
     ·have ai:Hid (n=ld ls):=(vA (fun h=>aW (by rw[<-hk,<-Y];exact h.2))).symm.trans aP.out
      have aa:(ka.toList==kb.toList)=false:=beq_eq_false_iff_ne.2 fun e=>aW (uB e);clear hk Y aW;go_wp2_with fail
      go_quiet (fail)
      have m4:=Mod.drewN (m:=m3) nq;generalize wr.drewN nq=w4 at *;clear m3 ck aj au ae aX;clear hd aP bK;have bP:ls≠[]:=ZO.1 oMg;have HC:Hid (dl ls=ls.take n::dl (ls.drop n)):=by show _=_;rw[lA bP,<-ai.out]
      have aV:ls.take n∈dl l:=by rw[ah.out,HC.out];simp
      obtain⟨aS,ay⟩:=HS.out _ aV;have bO:=qV HK.out aN.out _ aV;have aU:(ls.take n).length=n:=by rw[Zt];omega
      have aT:n<=4096:=by rw[<-aU];exact aS
      have rc:bp F (some ⟨b,o,none⟩) n (ls.take n):=by
       have h:=M.out.part 0 n oMg
       rwa [show (some (⟨b,o,none⟩:Addr)).map (·.add (0*4))=some ⟨b,o,none⟩from rfl,Z6]at h
      have HP:=zbj (fun(u:World)(G:ba)(hG:Sub G F)(mu:Mod u w0 G)=>uM n cL (some ⟨b,o,none⟩) (ls.take n) bO aT oMg u w0 G mu (rc.lift hG));obtain⟨nb,aD⟩:∃nb,(cq (ls.take n)).length=nb:=⟨_,rfl⟩;rw[aD]at HP ay;have aQ:=zbj aD;clear rc aS aD;have dm:¬(n:Int)<0:=oMg
      have dn:(n:Int)<=(cL:Int):=oMg
      go_wp2_with (go_at_call 117;refine(HP.out _ _ zbk m4).mono ?_;rintro ex w5 ⟨AB,cB,RB,rfl,bZ,rB,m5⟩;refine Hid.out ?_)
      refine zbj ?_;go_wp2_with (go_at_call 34;refine(g4 _ w0 _ m5).mono ?_;rintro ex w6 ⟨rfl,m6⟩;refine Hid.out ?_)
      refine zbj ?_;have ag:0<ls.length:=oMg
      have U:n-1<ls.length:=oMg
      have aR:bw F b o (.string (ju (ls.take n) 0)):=by
       have h:=(jc M.out ag).1;rw[Xj,Nat.add_zero]at h;rw[kc oMg,YU];exact h
      have aj:bw F b (o+(n-1)*4) (.string (ju (ls.take n) ((ls.take n).length-1))):=by
       have h:=(jc M.out U).1;simp only[aU];rw[kc oMg,YU];exact h
      obtain⟨k0,aB⟩:∃k,ju (ls.take n) 0=k:=⟨_,rfl⟩;obtain⟨k1,Y⟩:∃k,ju (ls.take n) ((ls.take n).length-1)=k:=⟨_,rfl⟩;rw[aB]at aR;rw[Y]at aj;have bG:Hid (mI lv q (ls.take n)=⟨q,lv,k0,k1⟩):=by show _=_;unfold mI;rw[aB,Y]
      clear ag U aB Y;have au:(n:Int)-1<(E:Int):=oMg
      have ae:(0:Int)<=(n:Int)-1:=oMg
      have aX:((n-1:Nat):Int)=(n:Int)-1:=oMg
      have aY:q+1<4294967296/\nr<4294967296:=by
       have h1:=bJ.out;have h2:=Hq.out;rw[ah.out,HC.out,Ze,List.length_cons,Z.out]at h1;omega
      have hq:q<4294967296:=oMg
      have dw:IntKind.u32.wrap ((q:Int)+1)=((q+1:Nat):Int):=by rw[IntKind.wrap_u32];omega
      obtain⟨aY,df⟩:=aY;have HN:=zbj (fun(u:World)(G:ba)(hG:Sub G F)(mu:Mod u w0 G)=>lQ q hq u w0 G mu (T.out.lift hG));have I:=sB hq;have V:=uo hq
      have aG:B.now.length<64/\eh B.files B.now+nb<=B.size:=by
       have h1:=av.out.many;have h2:=av.out.bytes;rw[HC.out,List.length_cons]at h1;rw[HC.out]at h2;simp only[pQ,Zy,List.sum_cons,aQ.out]at h2;omega
      have aa:=aQ.out;have aM:=zbj (fun(u:World)(G:ba)(mu:Mod u w0 (bv p B*G))=>mi p B (cY q) u w0 G mu I);have aL:=zbj (fun(u:World)(G:ba)(mu:Mod u w0 (bv p (D8 B (cY q))*G))=>zQ p B (cY q) I V aG.1 u w0 G mu)
      have aK:Hid (∀(g:Nat)(u:World)(G:ba),cw B.files g=none->Mod u w0 (bv p (g9 B (cY q) g ⟨[],0⟩)*G)->bk G AB nb (b7 (cq (ls.take n)))->cJ B->Calls Tryz.prog 79 #[ap p,.string (cY q),.slice AB nb cB] u fun e w'=>e=.returned (.int .i64 0)/\Mod w' w0 (bv p (g9 B (cY q) g ⟨cq (ls.take n),0⟩)*G)):=fun g u G hg mu ru aJ=>by
       have h:=zP p B (cY q) I V g AB cB (cq (ls.take n)) hg (by rw[aa];exact aG.2) (by rw[aa];exact ay) u w0 G mu (by rw[aa];exact ru) aJ;rw[aa]at h;exact h
      have aO:=zbj (fun(g:Nat)(u:World)(G:ba)(mu:Mod u w0 (bv p (g9 B (cY q) g ⟨cq (ls.take n),0⟩)*G))=>Ei p B (cY q) I V g (cq (ls.take n)) u w0 G mu);have aI:Hid (cJ B):=p7 m4 (zbk:eM _ (bv p) B _);have af:=zbj (fun(g:Nat)(hg:cw B.files g=none)=>xz (nm:=cY q) (b:=cq (ls.take n)) hg);obtain⟨nm,aF⟩:∃nm,cY q=nm:=⟨_,rfl⟩;have bI:=zbj aF;rw[aF]at HN aM aL aK aO af;clear aF I V aG aa hq ay;clear m4 m5;go_wp2_with fail
      go_region
      obtain⟨gf,az⟩:∃gf,w6.heap.size=gf:=⟨_,rfl⟩;have m7:Mod ((w6.alloc (.cells #[.int .u32 (q:Int),.int .i64 lv,.string k0,.string k1] 44)).drew) w0 (aE gf (.cells #[.int .u32 (q:Int),.int .i64 lv,.string k0,.string k1] 44 (0,0))*_):=Mod.drew (m:=Mod.alloc (m:=m6) (hn:=⟨az⟩) _);rw[az];generalize (w6.alloc (.cells #[.int .u32 (q:Int),.int .i64 lv,.string k0,.string k1] 44)).drew=w7 at *;clear az m6 aR aj au ae aX;go_wp2_with fail
      refine wp_region_held_drew (S:=fun u=>u.cell? ⟨e,0,none⟩=some (ap p)) kRf Za (fun y=>?_);simp only[Zl,List.length_cons,List.length_nil,Nat.reduceAdd];obtain⟨W,J⟩:∃W,W=w7.drew:=⟨_,rfl⟩;have mW:Mod W w0 _:=J▸Mod.drew (m:=m7);rw[<-J]at y ⊢;clear J m7;refine Tk.go [(0,some 65),(1,some 66),(2,some 67),(3,some 68),(4,some 69)] ?_
      repeat (
       refine Tk.gS (v:=?_) rfl (Or.inl ⟨by rfl,?_⟩) y ?_ (fun _ _ _ h=>h);rotate_left 1
       ·(intro u hu;(try dsimp only at hu);go_simp;try with_reducible rfl)
       simp only[Act.put,Zb,Zc,Zd])
      refine Tk.stop (g7 5 (some 70) rfl rfl rfl fun K z=>?_);go_simp
      refine(HN.out _ _ zbk mW).mono ?_;rintro ex w8 ⟨rfl,m8⟩;clear mW;refine z.out (.string nm) _ Za (fun y=>?_);clear z K;simp only[Act.put,Zb,Zc,Zd];refine(g7 6 (some 71) rfl rfl rfl fun K z=>?_);go_simp
      refine(aM.out _ _ (Mod.pull (m:=m8) (bv p B))).mono ?_;rintro ex w9 ⟨rr,rfl,m9⟩;clear m8;refine z.out (.int .i64 rr) _ Za (fun y=>?_);clear z K;simp only[Act.put,Zb,Zc,Zd];refine mH ?_;clear y;go_wp2_with fail
      refine wp_region_held_drew (S:=fun u=>u.cell? ⟨e,0,none⟩=some (ap p)) kRf Za (fun y=>?_);simp only[Zl,List.length_cons,List.length_nil,Nat.reduceAdd];obtain⟨W,J⟩:∃W,W=w9.drew:=⟨_,rfl⟩;have mW:Mod W w0 _:=J▸Mod.drew (m:=m9);rw[<-J]at y ⊢;clear J m9;refine Tk.go [(0,some 72),(1,some 73),(2,some 74),(3,some 75),(4,some 76)] ?_
      repeat (
       refine Tk.gS (v:=?_) rfl (Or.inl ⟨by rfl,?_⟩) y ?_ (fun _ _ _ h=>h);rotate_left 1
       ·(intro u hu;(try dsimp only at hu);go_simp;try with_reducible rfl)
       simp only[Act.put,Zb,Zc,Zd])
      refine Tk.stop (g7 5 (some 77) rfl rfl rfl fun K z=>?_);go_simp
      refine(HN.out _ _ zbk mW).mono ?_;rintro ex dz ⟨rfl,bn⟩;clear mW;refine z.out (.string nm) _ Za (fun y=>?_);clear z K;simp only[Act.put,Zb,Zc,Zd];refine(g7 6 (some 78) rfl rfl rfl fun K z=>?_);go_simp
      refine(aL.out _ _ bn).mono ?_;rintro ex dA ⟨g,rfl,hg,bq⟩;clear bn;refine z.out (.int .i64 0) _ Za (fun y=>?_);clear z K;simp only[Act.put,Zb,Zc,Zd];refine(g7 7 (some 79) rfl rfl rfl fun K z=>?_);go_simp
      refine(g4 _ w0 _ bq).mono ?_;rintro ex bR ⟨rfl,bu⟩;clear bq;refine z.out (.tuple #[]) _ Za (fun y=>?_);clear z K;simp only[Act.put,Zb,Zc,Zd];refine mH ?_;clear y;go_wp2_with fail
      refine wp_region_held_drew (S:=fun u=>u.cell? ⟨e,0,none⟩=some (ap p)) kRf Za (fun y=>?_);simp only[Zl,List.length_cons,List.length_nil,Nat.reduceAdd];obtain⟨W,J⟩:∃W,W=bR.drew:=⟨_,rfl⟩;have mW:Mod W w0 _:=J▸Mod.drew (m:=bu);rw[<-J]at y ⊢;clear J bu;refine Tk.go [(0,some 80),(1,some 81),(2,some 82),(3,some 83),(4,some 84),(6,some 86)] ?_
      repeat (
       refine Tk.gS (v:=?_) rfl (Or.inl ⟨by rfl,?_⟩) y ?_ (fun _ _ _ h=>h);rotate_left 1
       ·(intro u hu;(try dsimp only at hu);go_simp;try with_reducible rfl)
       simp only[Act.put,Zb,Zc,Zd])
      refine Tk.stop (g7 5 (some 85) rfl rfl rfl fun K z=>?_);go_simp
      refine(HN.out _ _ zbk mW).mono ?_;rintro ex dB ⟨rfl,bz⟩;clear mW;refine z.out (.string nm) _ Za (fun y=>?_);clear z K;simp only[Act.put,Zb,Zc,Zd];refine(g7 7 (some 87) rfl rfl rfl fun K z=>?_);go_simp
      refine(aK.out g _ _ hg bz (ct zbk rB) aI.out).mono ?_;rintro ex dC ⟨rfl,bB⟩;clear bz;refine z.out (.int .i64 0) _ Za (fun y=>?_);clear z K;simp only[Act.put,Zb,Zc,Zd];refine(g7 8 (some 88) rfl rfl rfl fun K z=>?_);go_simp
      refine(g4 _ w0 _ bB).mono ?_;rintro ex bS ⟨rfl,bC⟩;clear bB;refine z.out (.tuple #[]) _ Za (fun y=>?_);clear z K;simp only[Act.put,Zb,Zc,Zd];refine mH ?_;clear y;go_wp2_with fail
      refine wp_region_held_drew (S:=fun u=>u.cell? ⟨e,0,none⟩=some (ap p)) kRf Za (fun y=>?_);simp only[Zl,List.length_cons,List.length_nil,Nat.reduceAdd];obtain⟨W,J⟩:∃W,W=bS.drew:=⟨_,rfl⟩;have mW:Mod W w0 _:=J▸Mod.drew (m:=bC);rw[<-J]at y ⊢;clear J bC;refine Tk.go [(0,some 89),(1,some 90),(2,some 91),(3,some 92),(4,some 93)] ?_
      repeat (
       refine Tk.gS (v:=?_) rfl (Or.inl ⟨by rfl,?_⟩) y ?_ (fun _ _ _ h=>h);rotate_left 1
       ·(intro u hu;(try dsimp only at hu);go_simp;try with_reducible rfl)
       simp only[Act.put,Zb,Zc,Zd])
      refine Tk.stop (g7 5 (some 94) rfl rfl rfl fun K z=>?_);go_simp
      refine(HN.out _ _ zbk mW).mono ?_;rintro ex dD ⟨rfl,bD⟩;clear mW;refine z.out (.string nm) _ Za (fun y=>?_);clear z K;simp only[Act.put,Zb,Zc,Zd];refine(g7 6 (some 95) rfl rfl rfl fun K z=>?_);go_simp
      refine(aO.out g _ _ bD).mono ?_;rintro ex dE ⟨rfl,bE⟩;clear bD;refine z.out (.int .i64 0) _ Za (fun y=>?_);clear z K;simp only[Act.put,Zb,Zc,Zd];refine(g7 7 (some 96) rfl rfl rfl fun K z=>?_);go_simp
      refine(g4 _ w0 _ bE).mono ?_;rintro ex bT ⟨rfl,dx⟩;clear bE;refine z.out (.tuple #[]) _ Za (fun y=>?_);clear z K;simp only[Act.put,Zb,Zc,Zd];refine mH ?_;clear y
      go_wp2_with first
       | (refine qM (t:=40) (e:=44) (size:=4) (bytes:=48) (cs:=#[.int .u32 (q:Int),.int .i64 lv,.string k0,.string k1]) rfl rfl rfl rfl (by decide) ?_)
       | (at_builtin;refine mf (w0:=w0) ?_;intro mw;have mq:=Mod.pull (m:=mw) (ar 44 4 (.slice Ar nr cr) nr ((cX lv num done).flatMap bi.cells));refine i9 (t:=40) (size:=4) (v:=.slice Ar nr cr) (n:=nr) (xs:=(cX lv num done).flatMap bi.cells) (k:=1) (c:=1) (A:=⟨bT.heap.size,0,none⟩) (news:=(bi.mk q lv k0 k1).cells) rfl rfl mq rfl rfl (ce rfl rfl) (by decide) (qq (bi.mk q lv k0 k1)) (by unfold maxLen;omega) oMg ?_;clear mw mq;intro bF ax dF aH)
      have ak:nr+1<=ax:=by
       obtain⟨A',c',e,h⟩:=nP aH;injection e with _ _ e;omega
      go_roundg (E-n)
      case measure=>omega
      case rel =>
       have O:=M.out.rest (c:=cL) (i:=n) bQ oMg;rw[if_neg oMg]at O;have O:bp F (some ⟨b,o+n*4,none⟩) (E-n) (ls.drop n):=by simpa only[Option.map_some,Addr.add,if_neg (show ¬n*4=0 by omega)]using O
       refine⟨ls.drop n,done++[ls.take n],_,E-n,_,bF,nr+1,ax,q+1,g9 B nm g ⟨cq (ls.take n),(cq (ls.take n)).length⟩,rfl,rfl,rfl,rfl,oMg,oMg,ak,by show _=_;have:=Hq.out;omega,by show _=_;rw[Ze,Z.out];rfl,(za9 _ _).trans bM.out,by show _=_;rw[ah.out,HC.out];simp,O,bH.out.snoc (by rw[Z.out,<-Hq.out,bI.out];exact af.out g hg),?_,?_⟩
       ·have h:=av.out
        rw[HC.out]at h;exact h.next aI.out (af.out g hg)
       ·rw[mJ,Z.out,<-Hq.out,Z4]
        simp only[cX,bG.out,Zp,Yv,ZH];exact Mod.keep aH
    ·have hd:decide ((n:Int)<(E:Int))=false:=decide_eq_false oMg
     have ai:Hid (n=ld ls):=(vA (fun h=>by have:=h.1;omega)).symm.trans aP.out;go_wp2_with fail
     go_quiet (fail)
     have m4:=Mod.drewN (m:=m3) nq;generalize wr.drewN nq=w4 at *;clear m3;clear hd aP bK;have bP:ls≠[]:=ZO.1 oMg;have HC:Hid (dl ls=ls.take n::dl (ls.drop n)):=by show _=_;rw[lA bP,<-ai.out]
     have aV:ls.take n∈dl l:=by rw[ah.out,HC.out];simp
     obtain⟨aS,ay⟩:=HS.out _ aV;have bO:=qV HK.out aN.out _ aV;have aU:(ls.take n).length=n:=by rw[Zt];omega
     have aT:n<=4096:=by rw[<-aU];exact aS
     have rc:bp F (some ⟨b,o,none⟩) n (ls.take n):=by
      have h:=M.out.part 0 n oMg
      rwa [show (some (⟨b,o,none⟩:Addr)).map (·.add (0*4))=some ⟨b,o,none⟩from rfl,Z6]at h
     have HP:=zbj (fun(u:World)(G:ba)(hG:Sub G F)(mu:Mod u w0 G)=>uM n cL (some ⟨b,o,none⟩) (ls.take n) bO aT oMg u w0 G mu (rc.lift hG));obtain⟨nb,aD⟩:∃nb,(cq (ls.take n)).length=nb:=⟨_,rfl⟩;rw[aD]at HP ay;have aQ:=zbj aD;clear rc aS aD;have dm:¬(n:Int)<0:=oMg
     have dn:(n:Int)<=(cL:Int):=oMg
     go_wp2_with (go_at_call 117;refine(HP.out _ _ zbk m4).mono ?_;rintro ex w5 ⟨AB,cB,RB,rfl,bZ,rB,m5⟩;refine Hid.out ?_)
     refine zbj ?_;go_wp2_with (go_at_call 34;refine(g4 _ w0 _ m5).mono ?_;rintro ex w6 ⟨rfl,m6⟩;refine Hid.out ?_)
     refine zbj ?_;have ag:0<ls.length:=oMg
     have U:n-1<ls.length:=oMg
     have aR:bw F b o (.string (ju (ls.take n) 0)):=by
      have h:=(jc M.out ag).1;rw[Xj,Nat.add_zero]at h;rw[kc oMg,YU];exact h
     have aj:bw F b (o+(n-1)*4) (.string (ju (ls.take n) ((ls.take n).length-1))):=by
      have h:=(jc M.out U).1;simp only[aU];rw[kc oMg,YU];exact h
     obtain⟨k0,aB⟩:∃k,ju (ls.take n) 0=k:=⟨_,rfl⟩;obtain⟨k1,Y⟩:∃k,ju (ls.take n) ((ls.take n).length-1)=k:=⟨_,rfl⟩;rw[aB]at aR;rw[Y]at aj;have bG:Hid (mI lv q (ls.take n)=⟨q,lv,k0,k1⟩):=by show _=_;unfold mI;rw[aB,Y]
     clear ag U aB Y;have au:(n:Int)-1<(E:Int):=oMg
     have ae:(0:Int)<=(n:Int)-1:=oMg
     have aX:((n-1:Nat):Int)=(n:Int)-1:=oMg
     have aY:q+1<4294967296/\nr<4294967296:=by
      have h1:=bJ.out;have h2:=Hq.out;rw[ah.out,HC.out,Ze,List.length_cons,Z.out]at h1;omega
     have hq:q<4294967296:=oMg
     have dw:IntKind.u32.wrap ((q:Int)+1)=((q+1:Nat):Int):=by rw[IntKind.wrap_u32];omega
     obtain⟨aY,df⟩:=aY;have HN:=zbj (fun(u:World)(G:ba)(hG:Sub G F)(mu:Mod u w0 G)=>lQ q hq u w0 G mu (T.out.lift hG));have I:=sB hq;have V:=uo hq
     have aG:B.now.length<64/\eh B.files B.now+nb<=B.size:=by
      have h1:=av.out.many;have h2:=av.out.bytes;rw[HC.out,List.length_cons]at h1;rw[HC.out]at h2;simp only[pQ,Zy,List.sum_cons,aQ.out]at h2;omega
     have aa:=aQ.out;have aM:=zbj (fun(u:World)(G:ba)(mu:Mod u w0 (bv p B*G))=>mi p B (cY q) u w0 G mu I);have aL:=zbj (fun(u:World)(G:ba)(mu:Mod u w0 (bv p (D8 B (cY q))*G))=>zQ p B (cY q) I V aG.1 u w0 G mu)
     have aK:Hid (∀(g:Nat)(u:World)(G:ba),cw B.files g=none->Mod u w0 (bv p (g9 B (cY q) g ⟨[],0⟩)*G)->bk G AB nb (b7 (cq (ls.take n)))->cJ B->Calls Tryz.prog 79 #[ap p,.string (cY q),.slice AB nb cB] u fun e w'=>e=.returned (.int .i64 0)/\Mod w' w0 (bv p (g9 B (cY q) g ⟨cq (ls.take n),0⟩)*G)):=fun g u G hg mu ru aJ=>by
      have h:=zP p B (cY q) I V g AB cB (cq (ls.take n)) hg (by rw[aa];exact aG.2) (by rw[aa];exact ay) u w0 G mu (by rw[aa];exact ru) aJ;rw[aa]at h;exact h
     have aO:=zbj (fun(g:Nat)(u:World)(G:ba)(mu:Mod u w0 (bv p (g9 B (cY q) g ⟨cq (ls.take n),0⟩)*G))=>Ei p B (cY q) I V g (cq (ls.take n)) u w0 G mu);have aI:Hid (cJ B):=p7 m4 (zbk:eM _ (bv p) B _);have af:=zbj (fun(g:Nat)(hg:cw B.files g=none)=>xz (nm:=cY q) (b:=cq (ls.take n)) hg);obtain⟨nm,aF⟩:∃nm,cY q=nm:=⟨_,rfl⟩;have bI:=zbj aF;rw[aF]at HN aM aL aK aO af;clear aF I V aG aa hq ay;clear m4 m5;go_wp2_with fail
     go_region
     obtain⟨gf,az⟩:∃gf,w6.heap.size=gf:=⟨_,rfl⟩;have m7:Mod ((w6.alloc (.cells #[.int .u32 (q:Int),.int .i64 lv,.string k0,.string k1] 44)).drew) w0 (aE gf (.cells #[.int .u32 (q:Int),.int .i64 lv,.string k0,.string k1] 44 (0,0))*_):=Mod.drew (m:=Mod.alloc (m:=m6) (hn:=⟨az⟩) _);rw[az];generalize (w6.alloc (.cells #[.int .u32 (q:Int),.int .i64 lv,.string k0,.string k1] 44)).drew=w7 at *;clear az m6 aR aj au ae aX;go_wp2_with fail
     refine wp_region_held_drew (S:=fun u=>u.cell? ⟨e,0,none⟩=some (ap p)) kRf Za (fun y=>?_);simp only[Zl,List.length_cons,List.length_nil,Nat.reduceAdd];obtain⟨W,J⟩:∃W,W=w7.drew:=⟨_,rfl⟩;have mW:Mod W w0 _:=J▸Mod.drew (m:=m7);rw[<-J]at y ⊢;clear J m7;refine Tk.go [(0,some 65),(1,some 66),(2,some 67),(3,some 68),(4,some 69)] ?_
     repeat (
      refine Tk.gS (v:=?_) rfl (Or.inl ⟨by rfl,?_⟩) y ?_ (fun _ _ _ h=>h);rotate_left 1
      ·(intro u hu;(try dsimp only at hu);go_simp;try with_reducible rfl)
      simp only[Act.put,Zb,Zc,Zd])
     refine Tk.stop (g7 5 (some 70) rfl rfl rfl fun K z=>?_);go_simp
     refine(HN.out _ _ zbk mW).mono ?_;rintro ex w8 ⟨rfl,m8⟩;clear mW;refine z.out (.string nm) _ Za (fun y=>?_);clear z K;simp only[Act.put,Zb,Zc,Zd];refine(g7 6 (some 71) rfl rfl rfl fun K z=>?_);go_simp
     refine(aM.out _ _ (Mod.pull (m:=m8) (bv p B))).mono ?_;rintro ex w9 ⟨rr,rfl,m9⟩;clear m8;refine z.out (.int .i64 rr) _ Za (fun y=>?_);clear z K;simp only[Act.put,Zb,Zc,Zd];refine mH ?_;clear y;go_wp2_with fail
     refine wp_region_held_drew (S:=fun u=>u.cell? ⟨e,0,none⟩=some (ap p)) kRf Za (fun y=>?_);simp only[Zl,List.length_cons,List.length_nil,Nat.reduceAdd];obtain⟨W,J⟩:∃W,W=w9.drew:=⟨_,rfl⟩;have mW:Mod W w0 _:=J▸Mod.drew (m:=m9);rw[<-J]at y ⊢;clear J m9;refine Tk.go [(0,some 72),(1,some 73),(2,some 74),(3,some 75),(4,some 76)] ?_
     repeat (
      refine Tk.gS (v:=?_) rfl (Or.inl ⟨by rfl,?_⟩) y ?_ (fun _ _ _ h=>h);rotate_left 1
      ·(intro u hu;(try dsimp only at hu);go_simp;try with_reducible rfl)
      simp only[Act.put,Zb,Zc,Zd])
     refine Tk.stop (g7 5 (some 77) rfl rfl rfl fun K z=>?_);go_simp
     refine(HN.out _ _ zbk mW).mono ?_;rintro ex dz ⟨rfl,bn⟩;clear mW;refine z.out (.string nm) _ Za (fun y=>?_);clear z K;simp only[Act.put,Zb,Zc,Zd];refine(g7 6 (some 78) rfl rfl rfl fun K z=>?_);go_simp
     refine(aL.out _ _ bn).mono ?_;rintro ex dA ⟨g,rfl,hg,bq⟩;clear bn;refine z.out (.int .i64 0) _ Za (fun y=>?_);clear z K;simp only[Act.put,Zb,Zc,Zd];refine(g7 7 (some 79) rfl rfl rfl fun K z=>?_);go_simp
     refine(g4 _ w0 _ bq).mono ?_;rintro ex bR ⟨rfl,bu⟩;clear bq;refine z.out (.tuple #[]) _ Za (fun y=>?_);clear z K;simp only[Act.put,Zb,Zc,Zd];refine mH ?_;clear y;go_wp2_with fail
     refine wp_region_held_drew (S:=fun u=>u.cell? ⟨e,0,none⟩=some (ap p)) kRf Za (fun y=>?_);simp only[Zl,List.length_cons,List.length_nil,Nat.reduceAdd];obtain⟨W,J⟩:∃W,W=bR.drew:=⟨_,rfl⟩;have mW:Mod W w0 _:=J▸Mod.drew (m:=bu);rw[<-J]at y ⊢;clear J bu;refine Tk.go [(0,some 80),(1,some 81),(2,some 82),(3,some 83),(4,some 84),(6,some 86)] ?_
     repeat (
      refine Tk.gS (v:=?_) rfl (Or.inl ⟨by rfl,?_⟩) y ?_ (fun _ _ _ h=>h);rotate_left 1
      ·(intro u hu;(try dsimp only at hu);go_simp;try with_reducible rfl)
      simp only[Act.put,Zb,Zc,Zd])
     refine Tk.stop (g7 5 (some 85) rfl rfl rfl fun K z=>?_);go_simp
     refine(HN.out _ _ zbk mW).mono ?_;rintro ex dB ⟨rfl,bz⟩;clear mW;refine z.out (.string nm) _ Za (fun y=>?_);clear z K;simp only[Act.put,Zb,Zc,Zd];refine(g7 7 (some 87) rfl rfl rfl fun K z=>?_);go_simp
     refine(aK.out g _ _ hg bz (ct zbk rB) aI.out).mono ?_;rintro ex dC ⟨rfl,bB⟩;clear bz;refine z.out (.int .i64 0) _ Za (fun y=>?_);clear z K;simp only[Act.put,Zb,Zc,Zd];refine(g7 8 (some 88) rfl rfl rfl fun K z=>?_);go_simp
     refine(g4 _ w0 _ bB).mono ?_;rintro ex bS ⟨rfl,bC⟩;clear bB;refine z.out (.tuple #[]) _ Za (fun y=>?_);clear z K;simp only[Act.put,Zb,Zc,Zd];refine mH ?_;clear y;go_wp2_with fail
     refine wp_region_held_drew (S:=fun u=>u.cell? ⟨e,0,none⟩=some (ap p)) kRf Za (fun y=>?_);simp only[Zl,List.length_cons,List.length_nil,Nat.reduceAdd];obtain⟨W,J⟩:∃W,W=bS.drew:=⟨_,rfl⟩;have mW:Mod W w0 _:=J▸Mod.drew (m:=bC);rw[<-J]at y ⊢;clear J bC;refine Tk.go [(0,some 89),(1,some 90),(2,some 91),(3,some 92),(4,some 93)] ?_
     repeat (
      refine Tk.gS (v:=?_) rfl (Or.inl ⟨by rfl,?_⟩) y ?_ (fun _ _ _ h=>h);rotate_left 1
      ·(intro u hu;(try dsimp only at hu);go_simp;try with_reducible rfl)
      simp only[Act.put,Zb,Zc,Zd])
     refine Tk.stop (g7 5 (some 94) rfl rfl rfl fun K z=>?_);go_simp
     refine(HN.out _ _ zbk mW).mono ?_;rintro ex dD ⟨rfl,bD⟩;clear mW;refine z.out (.string nm) _ Za (fun y=>?_);clear z K;simp only[Act.put,Zb,Zc,Zd];refine(g7 6 (some 95) rfl rfl rfl fun K z=>?_);go_simp
     refine(aO.out g _ _ bD).mono ?_;rintro ex dE ⟨rfl,bE⟩;clear bD;refine z.out (.int .i64 0) _ Za (fun y=>?_);clear z K;simp only[Act.put,Zb,Zc,Zd];refine(g7 7 (some 96) rfl rfl rfl fun K z=>?_);go_simp
     refine(g4 _ w0 _ bE).mono ?_;rintro ex bT ⟨rfl,dx⟩;clear bE;refine z.out (.tuple #[]) _ Za (fun y=>?_);clear z K;simp only[Act.put,Zb,Zc,Zd];refine mH ?_;clear y
     go_wp2_with first
      | (refine qM (t:=40) (e:=44) (size:=4) (bytes:=48) (cs:=#[.int .u32 (q:Int),.int .i64 lv,.string k0,.string k1]) rfl rfl rfl rfl (by decide) ?_)
      | (at_builtin;refine mf (w0:=w0) ?_;intro mw;have mq:=Mod.pull (m:=mw) (ar 44 4 (.slice Ar nr cr) nr ((cX lv num done).flatMap bi.cells));refine i9 (t:=40) (size:=4) (v:=.slice Ar nr cr) (n:=nr) (xs:=(cX lv num done).flatMap bi.cells) (k:=1) (c:=1) (A:=⟨bT.heap.size,0,none⟩) (news:=(bi.mk q lv k0 k1).cells) rfl rfl mq rfl rfl (ce rfl rfl) (by decide) (qq (bi.mk q lv k0 k1)) (by unfold maxLen;omega) oMg ?_;clear mw mq;intro bF ax dF aH)
     ·have ak:nr+1<=ax:=by
       obtain⟨A',c',e,h⟩:=nP aH;injection e with _ _ e;omega
      go_roundg (E-n)
      case measure=>omega
      case rel =>
       have O:=M.out.rest (c:=n) (i:=n) bQ oMg;rw[if_pos rfl]at O;have O:bp F (some ⟨b,o,none⟩) (E-n) (ls.drop n):=by simpa only[Option.map_some,Addr.add,if_neg (show ¬n*4=0 by omega)]using O
       refine⟨ls.drop n,done++[ls.take n],_,E-n,_,bF,nr+1,ax,q+1,g9 B nm g ⟨cq (ls.take n),(cq (ls.take n)).length⟩,rfl,rfl,rfl,rfl,oMg,oMg,ak,by show _=_;have:=Hq.out;omega,by show _=_;rw[Ze,Z.out];rfl,(za9 _ _).trans bM.out,by show _=_;rw[ah.out,HC.out];simp,O,bH.out.snoc (by rw[Z.out,<-Hq.out,bI.out];exact af.out g hg),?_,?_⟩
       ·have h:=av.out
        rw[HC.out]at h;exact h.next aI.out (af.out g hg)
       ·rw[mJ,Z.out,<-Hq.out,Z4]
        simp only[cX,bG.out,Zp,Yv,ZH];exact Mod.keep aH
     ·have ak:nr+1<=ax:=by
       obtain⟨A',c',e,h⟩:=nP aH;injection e with _ _ e;omega
      go_roundg (E-n)
      case measure=>omega
      case rel =>
       have O:=M.out.rest (c:=cL) (i:=n) bQ oMg;rw[if_neg oMg]at O;have O:bp F (some ⟨b,o+n*4,none⟩) (E-n) (ls.drop n):=by simpa only[Option.map_some,Addr.add,if_neg (show ¬n*4=0 by omega)]using O
       refine⟨ls.drop n,done++[ls.take n],_,E-n,_,bF,nr+1,ax,q+1,g9 B nm g ⟨cq (ls.take n),(cq (ls.take n)).length⟩,rfl,rfl,rfl,rfl,oMg,oMg,ak,by show _=_;have:=Hq.out;omega,by show _=_;rw[Ze,Z.out];rfl,(za9 _ _).trans bM.out,by show _=_;rw[ah.out,HC.out];simp,O,bH.out.snoc (by rw[Z.out,<-Hq.out,bI.out];exact af.out g hg),?_,?_⟩
       ·have h:=av.out
        rw[HC.out]at h;exact h.next aI.out (af.out g hg)
       ·rw[mJ,Z.out,<-Hq.out,Z4]
        simp only[cX,bG.out,Zp,Yv,ZH];exact Mod.keep aH
  ·have h0:E=0:=oMg
   subst h0;have cO:ls=[]:=Xz.1 M.out.len;subst cO;have bN:dl l=done:=by rw[ah.out,jF,ZH]
   have cu:=Z.out;subst cu;have bX:¬(0:Int)<0:=oMg
   go_wp2_with (go_at_call 74;refine(kL p B _ w0 _ _ m2 zbk).mono ?_;rintro ex w3 ⟨rfl,m3⟩;refine Hid.out ?_)
   refine zbj ?_;go_wp2_with (go_at_call 34;refine(g4 _ w0 _ m3).mono ?_;rintro ex w4 ⟨rfl,m4⟩;refine Hid.out ?_)
   refine zbj ?_;go_wp2_with fail
   go_ret
   rw[bN];exact⟨Ar,cr,B,rfl,di,bH.out,Mod.keep m4⟩
end Go.Proofs.YtdfppjcaelghhaaGreatDoor
