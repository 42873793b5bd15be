/- Plain lemmas and contracts; the conditions are in each. -/
import Derived.Test.YtdfppjcaelghhaaGreatDoorPartsG
set_option maxHeartbeats 4000000
namespace Go.Proofs.YtdfppjcaelghhaaGreatDoor
open Go.RowKit Go.Sl Go.Shelf
attribute [local go_sem] ab bh bd kY Oper.semAt_some
theorem y7 {w w0:World}{A B C D E:ba}(m:Mod w w0 (A*(B*(C*(D*E))))):Mod w w0 (A*(B*E)):=Mod.drop (A:=C*D) (m:=Mod.to (m:=m) (by ac_rfl))
theorem Nu:((Tryz.prog.info? 5).bind (·.zero))=some (.int .u8 0):=kRf
theorem Nt:∃i,Tryz.prog.info? 5=some i/\i.zero=some (.int .u8 0):=by
 have h:=Nu
 cases y:Tryz.prog.info? 5 with
 | none=>rw[y]at h;cases h
 | some i=>rw[y]at h;exact⟨i,rfl,h⟩
theorem KT (l:List UInt8)(k:Nat):b7 l++List.replicate k (.int .u8 0)=b7 (l++eA k):=by simp[b7,eA]
theorem wk (p:Nat)(B:Option Addr)(n c:Nat)(rec:List UInt8)(w w0:World)(S:ba)(m:Mod w w0 S)(r:bk S B n (b7 rec))(hc:n<=c)(hb:p+15*n+14<=140737488355328) :
 Calls Tryz.prog 78 #[.int .i64 (p:Int),.slice B n c] w fun e w'=>∃A' c',e=.returned (.slice A' (fz p true rec).length c')/\Mod w' w0 (ar 5 1 (.slice A' (fz p true rec).length c') (fz p true rec).length (b7 (fz p true rec))*S):=by
 have hn:rec.length=n:=by have:=fp m r;rwa [fg]at this
 obtain⟨out,ae⟩:∃out,fz p true rec=out:=⟨_,rfl⟩;have ay:=zbj ae;rw[ae];clear ae;refine callsIn_wide.1 (callsIn_of_wp_marks (n:=9) Tryz.func78 rfl trivial ?_);simp only[Tryz.ntmps78,Zl,List.length_cons,List.length_nil,Nat.reduceAdd,Nat.reduceSub,YL,Array.replicate_zero,Y6,YR,List.nil_append,List.cons_append]
 gi_wp2_with (refine⟨trivial,?_⟩;gi_at_call 124;refine(callsIn_wide.2 (GQ p B n c _ w0 _ zbk)).mono ?_;rintro e w1 ⟨pa,pr,rfl,m1⟩)
 refine lX (gf:=192) (lb:=#[ap pr,ap pa]) rfl (enters_of Tryz.func192 kRf rfl) (GP S pa pr p n c B rec r hn hc oMg w0) (fun _=>rfl)
  (fun pre=>ex fun q:Option Addr×Nat=>aE (w.heap.size+1) (.cells #[.slice q.1 (jQ pre).length q.2] 67 (0,0))*(ar 5 1 (.slice q.1 (jQ pre).length q.2) (jQ pre).length (b7 (jQ pre))*(aE w.heap.size (.cells #[.int .i64 (p:Int)] 3 (0,0))*S)))
  (fun _ _=>xX False) ?start (fun _ _=>trivial) ?acts ?assign ?body ?done ?stop
 case start =>
  refine Mod.to (m:=Mod.shut (none,0) (G:=fun q:Option Addr×Nat=>aE (w.heap.size+1) (.cells #[.slice q.1 (jQ []).length q.2] 67 (0,0))*(ar 5 1 (.slice q.1 (jQ []).length q.2) (jQ []).length (b7 (jQ []))*(aE w.heap.size (.cells #[.int .i64 (p:Int)] 3 (0,0))*S))) (F:=aE pr (.cells #[.slice B n c] 67 (0,0))*aE pa (.cells #[.int .i64 (p:Int)] 3 (0,0))) (m:=Mod.to (m:=lS (e:=5) m1) ?_)) rfl;show _=(aE (w.heap.size+1) (.cells #[.slice none 0 0] 67 (0,0))*(ar 5 1 (.slice none 0 0) 0 []*_))*_
  ac_rfl
 case acts=>exact fun x=>{tmps:=#[.int .i64 (p:Int),.slice B n c,ap w.heap.size,undef,ap (w.heap.size+1),.int .u8 (x.kind.toNat:Int),.slice x.at_ x.n x.cap,.int .i64 (p:Int),.slice B n c,.func (.func 192) #[] #[ap pr,ap pa],.int .u8 (x.kind.toNat:Int),.slice x.at_ x.n x.cap,undef,undef,undef,undef,undef,undef,undef,undef,undef,undef,undef,undef,undef,undef,undef,undef,undef,undef,undef,undef,undef,undef,undef,undef,undef,undef],defers:=[]}
 case assign =>
  intro l x W K E;simp only[Pt.vals]
  gi_wp2
  exact E
 case body =>
  intro l pre x X W hN m2;obtain⟨⟨A0,c0⟩,m3⟩:=Mod.open (m:=m2);have m4:Mod W w0 (aE (w.heap.size+1) (.cells #[.slice A0 (jQ pre).length c0] 67 (0,0))*(ar 5 1 (.slice A0 (jQ pre).length c0) (jQ pre).length (b7 (jQ pre))*(aE w.heap.size (.cells #[.int .i64 (p:Int)] 3 (0,0))*(S*X)))):=Mod.to (m:=m3) (by ac_rfl);have ag:=hN.length;have U:=hN.gap;have hr:=hN.reads;have ak:=hN.len;have aD:jQ (pre++[x])=jQ pre++(eA x.gap++(tR x.kind x.piece++x.piece)):=by rw[kI];rfl
  have az:=zbj aD;clear aD m2 m3 hN m1 m;obtain⟨kind,at_,I,xc,piece,z⟩:=x;simp only at ag U hr ak az ⊢;generalize jQ pre=Z at *;obtain⟨ne,aj⟩:∃ne,Z.length=ne:=⟨_,rfl⟩;have aI:=zbj aj;rw[aj]at m4 ag U;clear aj;have ax:=zbj U;clear U
  gi_wp2_with fail
  obtain⟨SS,af,au⟩:∃SS,SS=_/\Mod W w0 SS:=⟨_,rfl,m4⟩;have h1:jq SS (w.heap.size+1) (.cells #[.slice A0 ne c0] 67 (0,0)):=by rw[af];infer_instance
  have h2:jq SS w.heap.size (.cells #[.int .i64 (p:Int)] 3 (0,0)):=by rw[af];infer_instance
  have HC:Hid (∀u,Mod u w0 SS->Calls Tryz.prog 125 #[.int .i64 ((p:Int)+(ne:Int))] u fun e w'=>e=.returned (.int .i64 (z:Int))/\Mod w' w0 SS):=fun u mu=>by
   have:=o8 (p+ne) u w0 SS mu oMg;rw[<-ax.out,Int.natCast_add]at this;exact this
  have av:=zbj af;clear af;have:=jO.some au;refine tp 6 au kRf kRf kRf (fun⟨_,_,h⟩=>h) ?_;simp only[List.take_succ_cons,List.take_zero,ZY,Z6]
  repeat (go_big_quiet_step ((go_at_call 125;refine cW (HC.out _ ?_);exact zbk)))
  refine wpQuiet_nil ?_;rintro w3 ⟨s,rfl⟩;have m5:=s.mod;clear HC au h1 h2 m4;generalize s.world=w3 at *;rw[av.out]at m5;clear av this s;obtain⟨i8,aB,aH⟩:=Nt;refine tN (v:=.slice A0 ne c0) (k:=z) rfl rfl Tryz.underlying3 aB aH rfl rfl m5 rfl rfl (by unfold maxLen;omega) oMg ?_;intro V Y w4 m6;clear m5 aB aH;rw[KT]at m6;simp only[Act.put,Zb,Zc,Zd];go_wp2_with fail
  have m7:Mod (w4.setCell ⟨w.heap.size+1,0,none⟩ (.slice V (ne+z) Y)) w0 (aE (w.heap.size+1) (.cells #[.slice V (ne+z) Y] 67 (0,0))*(ar 5 1 (.slice V (ne+z) Y) (ne+z) (b7 (Z++eA z))*(aE w.heap.size (.cells #[.int .i64 (p:Int)] 3 (0,0))*(S*X)))) :=
   Mod.to (m:=(zbk:Mod (w4.setCell ⟨w.heap.size+1,0,none⟩ (.slice V (ne+z) Y)) w0 (aE (w.heap.size+1) (.cells #[.slice V (ne+z) Y] 67 (0,0))*(ar 5 1 (.slice V (ne+z) Y) (ne+z) (b7 (Z++eA z))*(sC*(sC*(aE w.heap.size (.cells #[.int .i64 (p:Int)] 3 (0,0))*(S*X)))))))) (by simp only[b9])
  generalize w4.setCell ⟨w.heap.size+1,0,none⟩ (.slice V (ne+z) Y)=w5 at *;clear m6
  gi_wp2_with fail
  rename_i K0 hK0
  have HE:b7 [UInt8.ofNat (piece.length / 256),UInt8.ofNat piece.length,kind]=[.int .u8 (IntKind.u8.wrap ((I:Int) / 256)),.int .u8 (IntKind.u8.wrap (I:Int)),.int .u8 (kind.toNat:Int)]:=by
   rw[ak];simp[b7,IntKind.wrap_u8]
  have aa:(lH kind piece).toNat<4294967296:=(lH kind piece).isLt
  have HT:Hid (∀(M:Option Addr)(O:Nat)(v23 v32 v33:Value)(W':World),Mod W' w0 (aE (w.heap.size+1) (.cells #[.slice M (ne+z+4+3) O] 67 (0,0))*(ar 5 1 (.slice M (ne+z+4+3) O) (ne+z+4+3) (b7 (Z++eA z++tR kind piece))*(aE w.heap.size (.cells #[.int .i64 (p:Int)] 3 (0,0))*(S*X)))) ->
   K0 {tmps:=#[.int .i64 (p:Int),.slice B n c,ap w.heap.size,undef,ap (w.heap.size+1),.int .u8 (kind.toNat:Int),.slice at_ I xc,.int .i64 (p:Int),.slice B n c,.func (.func 192) #[] #[ap pr,ap pa],.int .u8 (kind.toNat:Int),.slice at_ I xc,.slice A0 ne c0,.int .i64 (p:Int),.slice A0 ne c0,.int .i64 (ne:Int),.int .i64 ((p:Int)+(ne:Int)),.int .i64 (z:Int),.slice V (ne+z) Y,.slice V (ne+z) Y,.int .u8 (kind.toNat:Int),.slice at_ I xc,.int .u32 ((lH kind piece).toNat:Int),v23,.slice at_ I xc,.int .i64 (I:Int),.int .i64 ((I:Int) / 256),.int .u8 (IntKind.u8.wrap ((I:Int) / 256)),.slice at_ I xc,.int .i64 (I:Int),.int .u8 (IntKind.u8.wrap (I:Int)),.int .u8 (kind.toNat:Int),v32,v33,undef,undef,undef,undef],defers:=[]} W'):=by
   intro M O v23 v32 v33 W' m8;refine hK0 _ _ ?_;clear hK0 m7;refine wpIn_region_list kRf (fun⟨_,_,h⟩=>h) ?_;go_wp2_with (at_builtin;(refine cS (v:=.slice M (ne+z+4+3) O) (A:=at_) (k:=I) (c:=xc) (news:=b7 piece) rfl rfl zbk rfl rfl (io _) (by unfold maxLen;omega) oMg ?_);intro A4 c4 w9 m9)
   have aK:Mod (w9.setCell ⟨w.heap.size+1,0,none⟩ (.slice A4 (ne+z+4+3+I) c4)) w0 _:=zbk;show Mod _ w0 (ex (fun q:Option Addr×Nat=>aE (w.heap.size+1) (.cells #[.slice q.1 _ q.2] 67 (0,0))*(ar 5 1 (.slice q.1 _ q.2) _ _*_))*X);rw[az.out]
   have ai:(Z++(eA z++(tR kind piece++piece))).length=ne+z+4+3+I:=by
    simp only[Ze,eA,Yh,vB,ak,aI.out];omega
   have J:b7 (Z++eA z++tR kind piece)++b7 piece=b7 (Z++(eA z++(tR kind piece++piece))):=by simp[b7]
   rw[ai,<-J];refine Mod.shut (A4,c4) (m:=Mod.to (m:=aK) ?_);simp only[b9];show aE (w.heap.size+1) (.cells #[.slice A4 (ne+z+4+3+I) c4] 67 (0,0))*_=_
   ac_rfl
  refine ud 15 (fun u=>u.cell? ⟨w.heap.size+1,0,none⟩=some (.slice V (ne+z) Y)) kRf kRf (fun⟨_,_,h⟩=>h) Za (fun y=>?_);simp only[Zl,List.length_cons,List.length_nil,Nat.reduceAdd];refine cj 0 (some 19) (v:=?_) rfl rfl kRf (by decide) kRf kRf kRf (fun _ _ _ h=>h) (Or.inl ⟨by rfl,?_⟩) y ?_;rotate_left 1
  ·(intro u J;(try dsimp only at J);go_simp;try with_reducible rfl)
  simp only[Act.put,Zb,Zc,Zd];refine cj 1 (some 20) (v:=?_) rfl rfl kRf (by decide) kRf kRf kRf (fun _ _ _ h=>h) (Or.inl ⟨by rfl,?_⟩) y ?_;rotate_left 1
  ·(intro u J;(try dsimp only at J);go_simp;try with_reducible rfl)
  simp only[Act.put,Zb,Zc,Zd];refine cj 2 (some 21) (v:=?_) rfl rfl kRf (by decide) kRf kRf kRf (fun _ _ _ h=>h) (Or.inl ⟨by rfl,?_⟩) y ?_;rotate_left 1
  ·(intro u J;(try dsimp only at J);go_simp;try with_reducible rfl)
  simp only[Act.put,Zb,Zc,Zd];refine cj 5 (some 24) (v:=?_) rfl rfl kRf (by decide) kRf kRf kRf (fun _ _ _ h=>h) (Or.inl ⟨by rfl,?_⟩) y ?_;rotate_left 1
  ·(intro u J;(try dsimp only at J);go_simp;try with_reducible rfl)
  simp only[Act.put,Zb,Zc,Zd];refine cj 6 (some 25) (v:=?_) rfl rfl kRf (by decide) kRf kRf kRf (fun _ _ _ h=>h) (Or.inl ⟨by rfl,?_⟩) y ?_;rotate_left 1
  ·(intro u J;(try dsimp only at J);go_simp;try with_reducible rfl)
  simp only[Act.put,Zb,Zc,Zd];refine cj 7 (some 26) (v:=?_) rfl rfl kRf (by decide) kRf kRf kRf (fun _ _ _ h=>h) (Or.inl ⟨by rfl,?_⟩) y ?_;rotate_left 1
  ·(intro u J;(try dsimp only at J);go_simp;try with_reducible rfl)
  simp only[Act.put,Zb,Zc,Zd];refine cj 8 (some 27) (v:=?_) rfl rfl kRf (by decide) kRf kRf kRf (fun _ _ _ h=>h) (Or.inl ⟨by rfl,?_⟩) y ?_;rotate_left 1
  ·(intro u J;(try dsimp only at J);go_simp;try with_reducible rfl)
  simp only[Act.put,Zb,Zc,Zd];refine cj 9 (some 28) (v:=?_) rfl rfl kRf (by decide) kRf kRf kRf (fun _ _ _ h=>h) (Or.inl ⟨by rfl,?_⟩) y ?_;rotate_left 1
  ·(intro u J;(try dsimp only at J);go_simp;try with_reducible rfl)
  simp only[Act.put,Zb,Zc,Zd];refine cj 10 (some 29) (v:=?_) rfl rfl kRf (by decide) kRf kRf kRf (fun _ _ _ h=>h) (Or.inl ⟨by rfl,?_⟩) y ?_;rotate_left 1
  ·(intro u J;(try dsimp only at J);go_simp;try with_reducible rfl)
  simp only[Act.put,Zb,Zc,Zd];refine cj 11 (some 30) (v:=?_) rfl rfl kRf (by decide) kRf kRf kRf (fun _ _ _ h=>h) (Or.inl ⟨by rfl,?_⟩) y ?_;rotate_left 1
  ·(intro u J;(try dsimp only at J);go_simp;try with_reducible rfl)
  simp only[Act.put,Zb,Zc,Zd];refine cj 12 (some 31) (v:=?_) rfl rfl kRf (by decide) kRf kRf kRf (fun _ _ _ h=>h) (Or.inl ⟨by rfl,?_⟩) y ?_;rotate_left 1
  ·(intro u J;(try dsimp only at J);go_simp;try with_reducible rfl)
  simp only[Act.put,Zb,Zc,Zd];have HH:b7 (Z++eA z++ff (lH kind piece).toNat)++b7 [UInt8.ofNat (piece.length / 256),UInt8.ofNat piece.length,kind]=b7 (Z++eA z++tR kind piece):=by simp[b7,tR]
  refine aw (rs:=[3,13]) kRf (by simp) (am.cons (some 22) rfl rfl rfl (fun K E=>?_) (am.cons (some 32) rfl rfl rfl (fun K E=>?_) am.nil))
  ·go_simp
   refine(vX kind at_ I xc piece _ w0 _ zbk zbk oMg).mono ?_;rintro e w7 ⟨rfl,aT⟩;refine E.out (.int .u32 ((lH kind piece).toNat:Int)) _ Za (fun y=>?_);clear E K;simp only[Act.put,Zb,Zc,Zd];refine aw (rs:=[4,13]) kRf (by simp) (am.cons (some 23) rfl rfl rfl (fun K E=>?_) (am.cons (some 32) rfl rfl rfl (fun K E=>?_) am.nil))
   ·go_simp
    refine(lE V (ne+z) Y (Z++eA z) (lH kind piece).toNat aa _ w0 _ zbk zbk oMg).mono ?_;rintro e w8 ⟨A2,c2,rfl,aU⟩;refine E.out (.slice A2 (ne+z+4) c2) _ Za (fun y=>?_);clear E K;simp only[Act.put,Zb,Zc,Zd];refine aw (rs:=[13]) kRf (by simp) (am.cons (some 32) rfl rfl rfl (fun K E=>?_) am.nil)
    ·go_simp
     have mB:Mod (w8.alloc (.cells #[.int .u8 (IntKind.u8.wrap ((I:Int) / 256)),.int .u8 (IntKind.u8.wrap (I:Int)),.int .u8 (kind.toNat:Int)] 5)) w0 _:=zbk;refine E.out (.slice (some ⟨w8.heap.size,0,none⟩) 3 3) _ Za (fun y=>?_);clear E K;simp only[Act.put,Zb,Zc,Zd];obtain⟨w9,aJ⟩:∃u,u=(w8.alloc (.cells #[.int .u8 (IntKind.u8.wrap ((I:Int) / 256)),.int .u8 (IntKind.u8.wrap (I:Int)),.int .u8 (kind.toNat:Int)] 5)):=⟨_,rfl⟩;rw[<-aJ]at mB y ⊢;refine aw (rs:=[14]) kRf (by simp) (am.cons (some 33) rfl rfl rfl (fun K E=>?_) am.nil)
     ·refine cI (t:=67) (s:=.tmp 23) (x:=.tmp 32) rfl (zbk:Mod w9 w0 _) (v:=.slice A2 (ne+z+4) c2) (n:=ne+z+4) rfl (A:=some ⟨w8.heap.size,0,none⟩) (k:=3) (c:=3) rfl (r:=ce rfl rfl) (by simp[Value.oneCell']) (by unfold maxLen;omega) oMg ?_
      intro M O aO aL;rw[<-HE,HH]at aL;refine E.out (.slice M (ne+z+4+3) O) _ Za (fun y=>?_);clear E K;simp only[Act.put,Zb,Zc,Zd];refine aw (rs:=[15]) kRf (by simp) (am.last none rfl rfl rfl (fun K E=>?_));go_simp
      have mE:Mod (aO.setCell ⟨w.heap.size+1,0,none⟩ (.slice M (ne+z+4+3) O)) w0 _:=zbk;refine E.out undef _ (fd kRf ?_);clear E K;refine HT.out M O _ _ _ _ ?_;simp only[b9]at mE;exact y7 mE
   ·go_simp
    have mB:Mod (w7.alloc (.cells #[.int .u8 (IntKind.u8.wrap ((I:Int) / 256)),.int .u8 (IntKind.u8.wrap (I:Int)),.int .u8 (kind.toNat:Int)] 5)) w0 _:=zbk;refine E.out (.slice (some ⟨w7.heap.size,0,none⟩) 3 3) _ Za (fun y=>?_);clear E K;simp only[Act.put,Zb,Zc,Zd];obtain⟨aY,aF⟩:∃u,u=(w7.alloc (.cells #[.int .u8 (IntKind.u8.wrap ((I:Int) / 256)),.int .u8 (IntKind.u8.wrap (I:Int)),.int .u8 (kind.toNat:Int)] 5)):=⟨_,rfl⟩;rw[<-aF]at mB y ⊢;refine aw (rs:=[4]) kRf (by simp) (am.cons (some 23) rfl rfl rfl (fun K E=>?_) am.nil)
    ·go_simp
     refine(lE V (ne+z) Y (Z++eA z) (lH kind piece).toNat aa _ w0 _ zbk zbk oMg).mono ?_;rintro e aP ⟨A2,c2,rfl,aV⟩;refine E.out (.slice A2 (ne+z+4) c2) _ Za (fun y=>?_);clear E K;simp only[Act.put,Zb,Zc,Zd];refine aw (rs:=[14]) kRf (by simp) (am.cons (some 33) rfl rfl rfl (fun K E=>?_) am.nil)
     ·refine cI (t:=67) (s:=.tmp 23) (x:=.tmp 32) rfl (zbk:Mod aP w0 _) (v:=.slice A2 (ne+z+4) c2) (n:=ne+z+4) rfl (A:=some ⟨w7.heap.size,0,none⟩) (k:=3) (c:=3) rfl (r:=ce rfl rfl) (by simp[Value.oneCell']) (by unfold maxLen;omega) oMg ?_
      intro M O aQ aM;rw[<-HE,HH]at aM;refine E.out (.slice M (ne+z+4+3) O) _ Za (fun y=>?_);clear E K;simp only[Act.put,Zb,Zc,Zd];refine aw (rs:=[15]) kRf (by simp) (am.last none rfl rfl rfl (fun K E=>?_));go_simp
      have mE:Mod (aQ.setCell ⟨w.heap.size+1,0,none⟩ (.slice M (ne+z+4+3) O)) w0 _:=zbk;refine E.out undef _ (fd kRf ?_);clear E K;refine HT.out M O _ _ _ _ ?_;simp only[b9]at mE;exact y7 mE
  ·go_simp
   have mB:Mod (World.drew (w5.alloc (.cells #[.int .u8 (IntKind.u8.wrap ((I:Int) / 256)),.int .u8 (IntKind.u8.wrap (I:Int)),.int .u8 (kind.toNat:Int)] 5))) w0 _:=zbk;refine E.out (.slice (some ⟨w5.heap.size,0,none⟩) 3 3) _ Za (fun y=>?_);clear E K;simp only[Act.put,Zb,Zc,Zd];obtain⟨aZ,aG⟩:∃u,u=(World.drew (w5.alloc (.cells #[.int .u8 (IntKind.u8.wrap ((I:Int) / 256)),.int .u8 (IntKind.u8.wrap (I:Int)),.int .u8 (kind.toNat:Int)] 5))):=⟨_,rfl⟩;rw[<-aG]at mB y ⊢;refine aw (rs:=[3]) kRf (by simp) (am.cons (some 22) rfl rfl rfl (fun K E=>?_) am.nil)
   ·go_simp
    refine(vX kind at_ I xc piece _ w0 _ zbk zbk oMg).mono ?_;rintro e bf ⟨rfl,aW⟩;refine E.out (.int .u32 ((lH kind piece).toNat:Int)) _ Za (fun y=>?_);clear E K;simp only[Act.put,Zb,Zc,Zd];refine aw (rs:=[4]) kRf (by simp) (am.cons (some 23) rfl rfl rfl (fun K E=>?_) am.nil)
    ·go_simp
     refine(lE V (ne+z) Y (Z++eA z) (lH kind piece).toNat aa _ w0 _ zbk zbk oMg).mono ?_;rintro e aR ⟨A2,c2,rfl,aX⟩;refine E.out (.slice A2 (ne+z+4) c2) _ Za (fun y=>?_);clear E K;simp only[Act.put,Zb,Zc,Zd];refine aw (rs:=[14]) kRf (by simp) (am.cons (some 33) rfl rfl rfl (fun K E=>?_) am.nil)
     ·refine cI (t:=67) (s:=.tmp 23) (x:=.tmp 32) rfl (zbk:Mod aR w0 _) (v:=.slice A2 (ne+z+4) c2) (n:=ne+z+4) rfl (A:=some ⟨w5.heap.size,0,none⟩) (k:=3) (c:=3) rfl (r:=ce rfl rfl) (by simp[Value.oneCell']) (by unfold maxLen;omega) oMg ?_
      intro M O aS aN;rw[<-HE,HH]at aN;refine E.out (.slice M (ne+z+4+3) O) _ Za (fun y=>?_);clear E K;simp only[Act.put,Zb,Zc,Zd];refine aw (rs:=[15]) kRf (by simp) (am.last none rfl rfl rfl (fun K E=>?_));go_simp
      have mE:Mod (aS.setCell ⟨w.heap.size+1,0,none⟩ (.slice M (ne+z+4+3) O)) w0 _:=zbk;refine E.out undef _ (fd kRf ?_);clear E K;refine HT.out M O _ _ _ _ ?_;simp only[b9]at mE;exact y7 mE
 case done =>
  intro D xs W hS m2;rw[eI,ii]at m2;obtain⟨⟨A',c'⟩,m3⟩:=Mod.open (m:=Mod.to (m:=m2) rfl);have m4:Mod W w0 (aE (w.heap.size+1) (.cells #[.slice A' (jQ xs).length c'] 67 (0,0))*(aE D (.deferred (some []))*(ar 5 1 (.slice A' (jQ xs).length c') (jQ xs).length (b7 (jQ xs))*(aE w.heap.size (.cells #[.int .i64 (p:Int)] 3 (0,0))*S)))):=Mod.to (m:=m3) (by ac_rfl);rw[hS,ay.out]at m4;clear m2 m3 hS m1 m;go_wp2
  gi_wp2
  have E:(W.setCell ⟨w.heap.size+1,0,none⟩ (.slice A' out.length c')).heap[D]?=some (.deferred (some [])):=g5 (m:=(zbk:Mod (W.setCell ⟨w.heap.size+1,0,none⟩ (.slice A' out.length c')) w0 _)) zbk;refine⟨by simp,.inl ⟨_,_,rfl,run_takeDeferred E,?_⟩⟩;have m5:Mod ((W.setCell ⟨w.heap.size+1,0,none⟩ (.slice A' out.length c')).putObj D (.deferred none)) w0 _:=Mod.putObj (m:=(zbk:Mod (W.setCell ⟨w.heap.size+1,0,none⟩ (.slice A' out.length c')) w0 _)) (t:=zbk) _;generalize (W.setCell ⟨w.heap.size+1,0,none⟩ (.slice A' out.length c')).putObj D (.deferred none)=W2 at *;have ah:W2.cell? ⟨w.heap.size+1,0,none⟩=some (.slice A' out.length c'):=Za;refine⟨.slice A' out.length c',by simp[results,asAddr,loadVar,ah,Tryz.f78],?_⟩;refine⟨A',c',rfl,?_⟩;simp only[b9]at m5;have m6:=Mod.drop (m:=Mod.drop (m:=m5));exact Mod.drop (A:=aE w.heap.size (.cells #[.int .i64 (p:Int)] 3 (0,0))) (m:=Mod.to (m:=m6) (by ac_rfl))
 case stop =>
  intro D c' pre W _ m2;rw[eI,ii,]at m2;exact(Mod.qD (m:=m2)).1.elim
end Go.Proofs.YtdfppjcaelghhaaGreatDoor
