/- Plain lemmas and contracts; the conditions are in each. -/
import Derived.Test.YtdfppjcaelghhaaGreatDoorEnRG
import Derived.Test.YtdfppjcaelghhaaGreatDoorEnWG
set_option maxRecDepth 8000
set_option maxHeartbeats 16000000
namespace Go.Proofs.YtdfppjcaelghhaaGreatDoor
open Go.RowKit Go.Sl Go.Shelf
attribute [local go_sem] ab bj bh bd
def eN.known (v:eN):List ByteArray:=ez v.k.al::v.k.files.map fun f=>cY f.num
theorem LI {v:eN}{r:Nat}(h:r<v.k.files.length):v.known[r+1]?=some (cY v.k.files[r].num):=by
 unfold eN.known;rw[List.getElem?_cons_succ,Yc,Zg h];rfl
theorem cv.known {v:eN}{B N J:Nat}(h:cv v B N J){s:ByteArray}(E:gc s=false)(I:br v.D.now s≠none):s∈v.known:=by
 have y:=h.disk.only s E I;unfold eN.known;rcases y with y | ⟨f,z,rfl⟩
 ·unfold jL at y
  split at y
  ·cases y
  ·rw[ZE]at y;subst y;exact Zj ..
 ·exact Zh _ (Zz.2 ⟨f,z,rfl⟩)
theorem IF (s:ByteArray)(b:UInt8)(y:b≠109)(h:Lib.hasPrefix s.data.toList [b,45]=true):gc s=false:=by
 unfold gc;unfold Lib.hasPrefix at h ⊢;generalize s.data.toList=l at *
 cases l with
 | nil=>simp at h
 | cons a l =>
   simp only[List.isPrefixOf,Yg,beq_iff_eq]at h ⊢;obtain⟨rfl,_⟩:=h;simp[Ne.symm y]
theorem Bf {y:List ByteArray}{x:ByteArray}(h:x∈y):Lib.containsS y x=true:=(Lib.containsS_iff y x).2 h
def eN.named (v:eN):eN:={v with D:={v.D with sure:=v.D.now} }
theorem cv.named {v:eN}{B N y:Nat}(h:cv v B N y)(few:(tY v.D.now).length<=50):cv v.named B N y :=
 ⟨⟨h.disk.turn (Kept.names) rfl h.disk.only few,h.rise,h.cont,h.many,h.small,h.lv0,h.lv1,h.lv3,h.num,h.next,h.seq,h.zN,h.held,h.qw⟩,fun _=>rfl,h.Bq,h.zK,h.tab,h.BH,h.BD,h.vY⟩
theorem CX (e p mp z ej t hm:Nat)(A:Option Addr)(c:Nat)(v:eN)(B N n0:Nat)(hr:cv v B N n0)(bO:n0<=100)(_hcap:v.k.files.length<=c)(w w0:World)(F:ba)(m:Mod w w0 (o6 e p mp z ej t hm A c v F))(tab:fX F) :
 Calls Tryz.prog 60 #[ap e] w fun en w'=>en=.returned (.tuple #[])/\Mod w' w0 (o6 e p mp z ej t hm A c v.named F):=by
 have bC:cJ v.D:=p7 m (zbk:eM _ (bv p) v.D _);have ax:=zbj tab;have bq:v.k.files.length<=107:=by have:=hr.toEnCore.files;omega
 have aB:=zbj (fun(u:World)(X:ba)(J:Mod u w0 (gA mp p (ap z) v.num v.xs.length (.slice A v.k.files.length v.k.files.length) v.k.nums*X))=>n7 mp p (ap z) v.num v.xs.length (.slice A v.k.files.length v.k.files.length) v.k.nums u w0 X J);have aQ:v.k.al<4294967296:=by have:=hr.disk.jn;have:=hr.disk.man.know.next;omega
 have az:=zbj (fun(u:World)(G:ba)(hG:Sub G F)(J:Mod u w0 G)=>nF v.k.al aQ u w0 G J (ax.out.lift hG));have aY:=zbj (fun(n:Nat)(u:World)(G:ba)(hn:n<4294967296)(hG:Sub G F)(J:Mod u w0 G)=>lQ n hn u w0 G J (ax.out.lift hG));have aM:=zbj (fun(u:World)(X:ba)(J:Mod u w0 (gA mp p (ap z) v.num v.xs.length (.slice A v.k.files.length v.k.files.length) v.k.nums*(kJ A c v.k.files*X)))=>sR mp p (ap z) v.num v.xs.length A c v.k u w0 X J oMg);have HL:=zbj (fun(u:World)(F:ba)(J:Mod u w0 (bv p v.D*F))=>tz p v.D u w0 _ F J ⟨rfl⟩);have bf:=zbj (fun(u:World)(F:ba)(J:Mod u w0 (bv p v.D*F))=>kL p v.D u w0 _ F J ⟨rfl⟩);have aF:Hid (∀f∈v.k.files,f.num<4294967296):=hr.disk.z6;have aZ:Hid (∀s,gc s=false->br v.D.now s≠none->s∈v.known):=fun s=>hr.known;clear hr tab;obtain⟨af,aR⟩:∃x,ez v.k.al=x:=⟨_,rfl⟩;rw[aR]at az;have ay:v.k.nums.1=v.k.al:=rfl;rw[ay]at aB;clear ay;go_enter Tryz.func60,Tryz.ntmps60
 go_wp2_with first
  | (go_at_call 58;refine(aB.out _ _ (Mod.pull (m:=m) (gA mp p (ap z) v.num v.xs.length (.slice A v.k.files.length v.k.files.length) v.k.nums))).mono ?_;rintro ex w1 ⟨rfl,m1⟩)
  | (go_at_call 72;refine(az.out _ _ zbk m1).mono ?_;rintro ex w2 ⟨rfl,m2⟩)
  | (go_at_call 42;refine Hid.out ?_)
 obtain⟨gl,aI⟩:∃x,w2.heap.size=x:=⟨_,rfl⟩;have m3:Mod (w2.alloc (.cells #[.string af] 9)) w0 (aE gl (.cells #[.string af] 9 (0,0))*_):=Mod.alloc (m:=m2) (hn:=⟨aI⟩) _;rw[aI];generalize w2.alloc (.cells #[.string af] 9)=w3 at *;have m4:Mod w3 w0 (ar 9 1 (.slice (some ⟨gl,0,none⟩) 1 1) 1 [.string af]*_):=me m3 (Zm _) (by decide) rfl rfl rfl;clear aI m m1 m2 m3 aB az;refine zbj ?_;go_wp2_with (go_at_call 42;refine(aM.out _ _ (Mod.z9 (m:=m4) (gA mp p (ap z) v.num v.xs.length (.slice A v.k.files.length v.k.files.length) v.k.nums) (kJ A c v.k.files))).mono ?_;rintro ex w5 ⟨AF,cF,rfl,bn,m5⟩;refine Hid.out ?_)
 refine zbj ?_;obtain⟨S0,ai⟩:∃S,S=o6 e p mp z ej t hm A c v F:=⟨_,rfl⟩;have aD:=zbj ai;have ah:Sub S0 F:=by rw[ai];infer_instance
 have aX:=zbj ah
 have m6:Mod w5 w0 (ar 9 1 (.slice (some ⟨gl,0,none⟩) 1 1) 1 ((v.known.take 1).map Value.string)*(kJ AF cF v.k.files*S0)):=by
  rw[ai,show (v.known.take 1).map Value.string=[.string af] by unfold eN.known;rw[aR];rfl];exact Mod.keep m5
 obtain⟨nf,aK⟩:∃n,v.k.files.length=n:=⟨_,rfl⟩;rw[aK]at bq bn ⊢;have aP:=zbj aK;clear ai ah m4 m5 aK aM;go_wp2_with fail
 go_loopg [2,20] nf (fun gk v2 bI wr=>∃(r cl:Nat)(Al:Option Addr),r<=nf/\gk=nf-r/\v2=.slice Al (r+1) cl/\bI=.int .i64 (r:Int)/\Mod wr w0 (ar 9 1 (.slice Al (r+1) cl) (r+1) ((v.known.take (r+1)).map Value.string)*(kJ AF cF v.k.files*S0)))
 case atStart=>exact⟨0,1,some ⟨gl,0,none⟩,Zv _,rfl,rfl,rfl,m6⟩
 case round =>
  obtain⟨r,cl,Al,hr,bN,rfl,rfl,m9⟩:=hrel;clear m6;by_cases aS:r<nf
  ·have aT:(r:Int)<(nf:Int):=oMg
   have E:r<v.k.files.length:=by rw[aP.out];exact aS
   have rF:=kR AF cF v.k.files;obtain⟨b,o,rfl⟩:∃b o,AF=some ⟨b,o,none⟩:=j8 (Mod.pull (m:=m9) (kJ AF cF v.k.files)) (rF.lift zbk) E;obtain⟨k0,k1,k2,k3⟩:=oL rF E;have bu:=aF.out _ (Zq E)
   have aN:Hid ((v.known.take (r+1+1)).map Value.string=(v.known.take (r+1)).map Value.string++[.string (cY v.k.files[r].num)]):=by
    show _=_;rw[zab (i:=r+1),ZP,LI E];rfl
   generalize v.k.files[r]=f at *;clear rF E;obtain⟨fn,bM,fl,fm⟩:=f;obtain⟨en,aH⟩:∃x,cY fn=x:=⟨_,rfl⟩;have av:=zbj (fun(u:World)(G:ba)(hG:Sub G F)(J:Mod u w0 G)=>aY.out fn u G bu hG J);have aO:Hid ((v.known.take (r+1+1)).map Value.string=(v.known.take (r+1)).map Value.string++[.string en]):=by show _=_;rw[aN.out,<-aH]
   rw[aH]at av;generalize (v.known.take (r+1)).map Value.string=xs at *;clear aN aH;have ah:=aX.out;go_wp2_with (go_at_call 89;refine(av.out _ _ zbk zbk).mono ?_;rintro ex w6 ⟨rfl,U⟩;refine Hid.out ?_)
   clear ah;refine zbj ?_;go_wp2_with (at_builtin;refine cS (v:=.slice Al (r+1) cl) (n:=r+1) (xs:=xs) (k:=1) (c:=1) (news:=[.string en]) (r:=ce rfl rfl) rfl rfl zbk rfl rfl (by simp[Value.oneCell']) (by unfold maxLen;omega) oMg ?_;intro A2 c2 w7 au)
   go_roundg (nf-(r+1))
   case measure=>omega
   case rel=>exact⟨r+1,c2,A2,aS,rfl,rfl,by go_num,by rw[aO.out];exact Mod.keep au⟩
  ·have aT:¬(r:Int)<(nf:Int):=oMg
   have bE:r=nf:=oMg
   subst bE;have bF:v.known.take (r+1)=v.known:=Zn (by unfold eN.known;rw[List.length_cons,ZW,aP.out];exact Zm _);rw[bF]at m9;rw[aD.out]at m9;go_wp2_with (go_at_call 50;refine(HL.out _ _ (Mod.pull (m:=m9) (bv p v.D))).mono ?_;rintro ex bK ⟨BL,cL,rfl,U⟩;refine Hid.out ?_)
   clear m9 HL;obtain⟨names,y⟩:∃l:List ByteArray,(e8 v.D).map (fun l=>(⟨l.toArray⟩:ByteArray))=l:=⟨_,rfl⟩;have ak:names.length=(e8 v.D).length:=by rw[<-y,ZW]
   have bB:Hid (∀s∈names,gc s=false->s∈v.known):=fun s hs ho=>by
    rw[<-y]at hs;obtain⟨l,hl,rfl⟩:=Zz.1 hs;obtain⟨q,hq,bD⟩:=uD.1 hl;have e:(⟨l.toArray⟩:ByteArray)=q.1:=by rw[<-bD]
    rw[e]at ho ⊢;exact aZ.out q.1 ho fun hn=>ot hn q hq rfl
   have aU:names.length<=64:=by rw[ak,tT];exact bC.many
   rw[zc,y]at U;rw[<-ak]at U;refine zbj ?_;rw[<-ak];obtain⟨O,aJ⟩:∃n,names.length=n:=⟨_,rfl⟩;rw[aJ]at U aU ⊢;have bg:=zbj aJ
   have au:Mod bK w0 (ar 9 1 (.slice BL O cL) O (pT names)*(ar 9 1 (.slice Al (r+1) cl) (r+1) (v.known.map Value.string)*(kJ AF cF v.k.files*S0))):=by
    rw[aD.out];exact Mod.keep U
   clear aJ U ak y;go_wp2_with fail
   go_loopg [37] O (fun gk bJ wr=>∃i:Nat,i<=O/\gk=O-i/\bJ=.int .i64 (i:Int)/\Mod wr w0 (ar 9 1 (.slice BL O cL) O (pT names)*(ar 9 1 (.slice Al (r+1) cl) (r+1) (v.known.map Value.string)*(kJ AF cF v.k.files*S0))))
   case atStart=>exact⟨0,Zv _,rfl,rfl,au⟩
   case round =>
    obtain⟨i,hi,bL,rfl,I⟩:=hrel;clear au;by_cases M:i<O
    ·have bz:(i:Int)<(O:Int):=oMg
     have E:i<names.length:=by rw[bg.out];exact M
     obtain⟨b,o,rfl,ae⟩:=px I (zbk:bk _ BL O (pT names)) oMg;have hc:=ae i E;have aL:=bB.out _ (Zq E);clear ae;generalize names[i]=s at *;clear E;have Z:=zbj (fun(u:World)(S:ba)(J:Mod u w0 S)=>mN s ⟨#[101,45]⟩ u w0 S J);have aa:=zbj (fun(u:World)(S:ba)(J:Mod u w0 S)=>mN s ⟨#[106,45]⟩ u w0 S J);have aG:Lib.hasPrefix s.data.toList (⟨#[101,45]⟩:ByteArray).data.toList=true->s∈v.known:=fun h=>aL (IF s 101 (by decide) h);have aj:Lib.hasPrefix s.data.toList (⟨#[106,45]⟩:ByteArray).data.toList=true->s∈v.known:=fun h=>aL (IF s 106 (by decide) h);clear aL;generalize Lib.hasPrefix s.data.toList (⟨#[101,45]⟩:ByteArray).data.toList=b1 at *;generalize Lib.hasPrefix s.data.toList (⟨#[106,45]⟩:ByteArray).data.toList=b2 at *
     have V:Hid (s∈v.known->∀(u:World)(S:ba),Mod u w0 S->bk S Al (r+1) (v.known.map Value.string)->Calls Tryz.prog 53 #[.slice Al (r+1) cl,.string s] u fun e w'=>e=.returned (.bool true)/\Mod w' w0 S):=fun hs u S J rd=>by
      have h1:=zT Al (r+1) cl v.known s u w0 S J rd oMg;rw[Bf hs]at h1;exact h1
     cases b1 with
     | true =>
       have Y:=zbj (V.out (aG rfl));clear aG aj V aa;go_wp2_with (go_at_call 49;refine(Z.out _ _ I).mono ?_;rintro ex aV ⟨rfl,K⟩;refine Hid.out ?_)
       clear I;refine zbj ?_;go_wp2_with (go_at_call 53;refine(Y.out _ _ K zbk).mono ?_;rintro ex aW ⟨rfl,ag⟩)
       go_roundg (O-(i+1))
       case measure=>omega
       case rel=>exact⟨i+1,M,rfl,by go_num,ag⟩
     | false =>
       clear aG
       cases b2 with
       | true =>
         have Y:=zbj (V.out (aj rfl));clear aj V;go_wp2_with (go_at_call 49;refine(Z.out _ _ I).mono ?_;rintro ex aV ⟨rfl,K⟩;refine Hid.out ?_)
         clear I Z;refine zbj ?_;go_wp2_with (go_at_call 49;refine(aa.out _ _ K).mono ?_;rintro ex aW ⟨rfl,ag⟩;refine Hid.out ?_)
         clear K aa;refine zbj ?_;go_wp2_with (go_at_call 53;refine(Y.out _ _ ag zbk).mono ?_;rintro ex bP ⟨rfl,bG⟩)
         go_roundg (O-(i+1))
         case measure=>omega
         case rel=>exact⟨i+1,M,rfl,by go_num,bG⟩
       | false =>
         clear aj V;go_wp2_with (go_at_call 49;refine(Z.out _ _ I).mono ?_;rintro ex aV ⟨rfl,K⟩;refine Hid.out ?_)
         clear I Z;refine zbj ?_;go_wp2_with (go_at_call 49;refine(aa.out _ _ K).mono ?_;rintro ex aW ⟨rfl,ag⟩;refine Hid.out ?_)
         clear K aa;refine zbj ?_;go_wp2_with fail
         go_roundg (O-(i+1))
         case measure=>omega
         case rel=>exact⟨i+1,M,rfl,by go_num,ag⟩
    ·have bz:¬(i:Int)<(O:Int):=oMg
     rw[aD.out]at I;go_wp2_with (go_at_call 74;refine(bf.out _ _ (Mod.pull (m:=I) (bv p v.D))).mono ?_;rintro ex bQ ⟨rfl,bH⟩)
     go_end0
     refine⟨rfl,?_⟩;show Mod _ w0 (fL mp p z v.num v.xs.length A c v.k ⟨v.D.size,v.D.now,v.D.now,v.D.files⟩ (al [] (cf v.xs)).length (jT e p (ap mp) (ap ej) (ap t) (.int .u64 (v.seq:Int)) (.int .u64 (v.sure:Int)) (.map (some hm))*(im t v.T*(U64.gv hm (g6 v.H)*(dt ej p (ez v.k.al) (al [] (v.ws.map fy)).length*F)))));exact Mod.keep bH
end Go.Proofs.YtdfppjcaelghhaaGreatDoor
