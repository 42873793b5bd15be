/- Plain lemmas and contracts; the conditions are in each. -/
import Derived.Test.YtdfppjcaelghhaaGreatDoorEnKG
set_option maxRecDepth 8000
set_option maxHeartbeats 16000000
namespace Go.Proofs.YtdfppjcaelghhaaGreatDoor
open Go.RowKit Go.Sl
attribute [local go_sem] ab bj bh bd
instance Ol:wl Tryz.prog 149 29 8:=⟨Tryz.underlying149,by kernel_rfl⟩
instance OB:U64.od Tryz.prog 64:=⟨by kernel_rfl,by kernel_rfl,fun w=>by kernel_rfl⟩
def pP (l:List Nat):List Value:=l.map fun s:Nat=>Value.int .u64 (s:Int)
theorem s4 (rs:List cQ)(B:Option Addr)(c n:Nat)(x:List ao)(h:x.length=n):et (rs++[⟨B,c,x⟩])=et rs++[.slice B n c]:=by
 subst h;unfold et;rw[ZP];rfl
theorem IV {runs:List cQ}{y:List bi}{ent:Nat->List ao}(h:runs.map (·.l)=y.map fun f=>ent f.num):km runs=y.flatMap fun f=>ent f.num:=by
 have e:km runs=(runs.map (·.l)).flatten:=by unfold km;rw[List.flatMap_def]
 rw[e,h,List.flatMap_def]
theorem zZ (e p V U ej t hm:Nat)(A:Option Addr)(c:Nat)(v:eN)(B N n0:Nat)(tl:Int)(h:cv v B N n0)(dP:n0<=5)(hT:v.T=[])(hN:N<=2300)(hs:v.D.size=8388608)(fO:tl=1\/tl=3)(hB:B+8<=1000000)(cK:v.k.files.length<=c)(w w0:World)(F:ba)(m:Mod w w0 (o6 e p V U ej t hm A c v F))(tab:fX F) :
 Calls Tryz.prog 41 #[ap e,.int .i64 0,.int .i64 tl] w fun en w'=>en=.returned (.tuple #[])/\∃(v':eN)(fQ:Nat)(A':Option Addr)(c':Nat),cv v' (B+8) N 0/\CH tl v v'/\v'.k.files.length<=c'/\Mod w' w0 (o6 e p V fQ ej t hm A' c' v' F):=by
 have fH:cJ v.D:=p7 m (zbk:eM _ (bv p) v.D _);have HC:=zbj h;have bg:=zbj tab;obtain⟨S0,aK⟩:∃S,S=o6 e p V U ej t hm A c v F:=⟨_,rfl⟩;have bU:v.k.files.length<=100:=by have:=h.toEnCore.files;omega
 have dw:Hid (∀(u:World),Mod u w0 S0->Calls Tryz.prog 76 #[ap e] u fun en w'=>∃(va:Value)(LV:ba),en=.returned va/\Hid (NQ va LV v.k.files)/\Mod w' w0 (LV*S0)):=fun u mu=>by
  rw[aK]at mu;refine(Ej e V p (ap p) (ap ej) (ap t) (.int .u64 (v.seq:Int)) (.int .u64 (v.sure:Int)) (.map (some hm)) (ap U) v.num v.xs.length A c v.k u w0 _ (Mod.NJ (m:=mu) (gA V p (ap U) v.num v.xs.length (.slice A v.k.files.length v.k.files.length) v.k.nums) (kJ A c v.k.files) (jT e p (ap V) (ap ej) (ap t) (.int .u64 (v.seq:Int)) (.int .u64 (v.sure:Int)) (.map (some hm)))) (by omega) (fun f hf=>by rcases h.disk.lev f hf with e | e | e <;> omega)).mono ?_;rintro en w' ⟨va,LV,O,h2,m2⟩;exact⟨va,LV,O,h2,by rw[aK];exact Mod.keep m2⟩
 have dz:Hid (∀(u:World)(X:ba)(f:bi),f∈v.k.files->Mod u w0 (S0*X)->Calls Tryz.prog 85 #[ap e,.agg #[.int .u32 (f.num:Int),.int .i64 f.level,.string f.least,.string f.most]] u fun en w'=>∃Bn Y,en=.returned (.slice Bn (v.ent f.num).length Y)/\(v.ent f.num).length<=Y/\Mod w' w0 (ar 71 4 (.slice Bn (v.ent f.num).length Y) (v.ent f.num).length ((v.ent f.num).flatMap ao.cells)*(S0*X))):=fun u X f hf mu=>by
  rw[aK]at mu;refine(Ae e p (ap V) (ap ej) (ap t) (.int .u64 (v.seq:Int)) (.int .u64 (v.sure:Int)) (.map (some hm)) v.D f (h.disk.z6 f hf) (v.ent f.num) (h.disk.each f hf).here u w0 _ (Mod.z9 (m:=mu) (bv p v.D) (jT e p (ap V) (ap ej) (ap t) (.int .u64 (v.seq:Int)) (.int .u64 (v.sure:Int)) (.map (some hm)))) (tab.lift zbk)).mono ?_;rintro en w' ⟨Bn,Y,O,h2,m2⟩;exact⟨Bn,Y,O,h2,by rw[aK];exact Mod.keep m2⟩
 rw[<-aK]at m;have eO:=zbj aK;obtain⟨l,hl⟩:∃l,v.k.files=l:=⟨_,rfl⟩;have cZ:∀f∈l,f.level=0\/f.level=1\/f.level=3:=by rw[<-hl];exact h.disk.lev
 have ed:=zbj cZ;have dZ:Hid (∀f∈l,(v.ent f.num).length<=4096):=by rw[<-hl];exact fun f hf=>(h.disk.each f hf).here.len
 have bB:l.length<=100:=by rw[<-hl];exact bU
 have bn:=zbj bB;rw[hl]at dw dz;have HL:=zbj hl;have fP:(0:Int)<=tl/\tl<=3:=by omega
 have dE:=zbj fO;have M:=zbj (And.intro hT (And.intro hs (And.intro cK fH)));clear aK tab h hl cZ bU hT hs cK fH bB fO
 have dm:∀i,i<=4->(ta tl l i).length<=100*i:=fun i hi=>by
  have gU:∀j:Int,(if j<=tl then eE j l else []).length<=100:=fun j=>by
   split
   ·exact Yl (Y7 _ _) bn.out
   ·simp
  induction i with
  | zero=>simp[ta]
  | succ i ih =>
    rw[AD _ _ (by omega),Ze];have:=ih (by omega);have:=gU (i:Int);omega
 have cz:=zbj dm;clear dm;go_enter Tryz.func41,Tryz.ntmps41
 go_wp2_with (go_at_call 76;refine(dw.out _ m).mono ?_;rintro ex w1 ⟨va,LV,rfl,gN,m1⟩;refine Hid.out ?_)
 refine zbj ?_;go_wp2_with fail
 have m2:=ey (e:=59) (size:=1) (ey (e:=42) (size:=1) m1);clear m1 m;go_loopg [6,7,8,22] 4 (fun gk v6 v7 v8 iH wr=>∃(i J cl cg:Nat)(Al Ag:Option Addr)(la:Bool)(runs:List cQ)(G:ba),i<=4/\gk=4-i/\v6=.slice Al J cl/\v7=.slice Ag J cg/\v8=.bool la/\iH=.int .i64 (i:Int)/\Hid ((ta tl l i).length=J)/\Hid (runs.map (·.l)=(ta tl l i).map fun f=>v.ent f.num)/\Hid (la=wK tl l i)/\Hid (jb G runs)/\Mod wr w0 (ar 59 1 (.slice Al J cl) J (et runs)*(ar 42 1 (.slice Ag J cg) J (g3 (ta tl l i))*(G*(LV*S0)))))
 case atStart=>exact⟨0,0,0,0,none,none,true,[],sC,by omega,rfl,rfl,rfl,rfl,rfl,rfl,rfl,rfl,fun r hr=>(by cases hr),Mod.to (m:=m2) (by rw[b9];rfl)⟩
 case round =>
  obtain⟨i,J,cl,cg,Al,Ag,la,runs,G,ik,ig,rfl,rfl,rfl,rfl,aV,bu,bP,bO,m3⟩:=hrel;by_cases aN:i<4
  ·have df:(i:Int)<4:=by omega
   have gT:(0:Int)<=(i:Int):=by omega
   obtain⟨Ai,ci,gZ,iq,rI⟩:=gN.out i aN;have aZ:=zbj (AD tl l aN);have aS:=zbj (Eg tl l aN);have bY:J<=400:=by rw[<-aV.out];have:=cz.out i ik;omega
   have cB:∀f∈eE (i:Int) l,f∈l:=fun f hf=>(ZB.1 hf).1;have eZ:(eE (i:Int) l).length<=100:=Yl (Y7 _ _) bn.out;have dY:=zbj cB;generalize eE (i:Int) l=li at *;obtain⟨ni,dQ⟩:∃n,li.length=n:=⟨_,rfl⟩;rw[dQ]at iq rI gZ eZ;have bf:=zbj dQ;have RI:=zbj rI;clear dQ rI cB;generalize iE:ta tl l i=sd at *;clear iE;go_wp2_with fail
   by_cases fA:(i:Int)<=tl
   ·go_loopg [6,7,8,28] ni (fun gk v6 v7 v8 bJ dX=>∃(r z aj ai:Nat)(ah ag:Option Addr)(I:List cQ)(G2:ba),r<=ni/\gk=ni-r/\v6=.slice ah z aj/\v7=.slice ag z ai/\v8=.bool la/\bJ=.int .i64 (r:Int)/\Hid (z=J+r)/\Hid (I.map (·.l)=(sd++li.take r).map fun f=>v.ent f.num)/\Hid (jb G2 I)/\Mod dX w0 (ar 59 1 (.slice ah z aj) z (et I)*(ar 42 1 (.slice ag z ai) z (g3 (sd++li.take r))*(G2*(LV*S0)))))
    case atStart=>exact⟨0,J,cl,cg,Al,Ag,runs,G,Zv _,rfl,rfl,rfl,rfl,rfl,rfl,by rw[List.take_zero,ZH];exact bu.out,bO.out,by rw[List.take_zero,ZH];exact m3⟩
    case round =>
     obtain⟨r,z,aj,ai,ah,ag,I,G2,hr,fu,rfl,rfl,rfl,rfl,bq,dF,cu,m4⟩:=hrel;by_cases az:r<ni
     ·have aO:(r:Int)<(ni:Int):=by omega
      have bE:r<li.length:=by rw[bf.out];exact az
      have iK:z<=500:=by have:=bq.out;omega
      have dJ:=dY.out _ (Zq bE);have hE:=dZ.out _ dJ;have rI:=RI.out;obtain⟨b,o,rfl⟩:∃b o,Ai=some ⟨b,o,none⟩:=j8 (Mod.pull (m:=m4) LV) (rI.lift zbk) az;have HF:=zbj (oL rI bE);clear rI;have dD:Hid (li.take (r+1)=li.take r++[li[r]]):=Zx bE;generalize fo:sd++li.take r=dn at *;have gP:=zbj fo;clear fo;generalize li[r]=f at *;obtain⟨Z,aG,fl,fm⟩:=f;obtain⟨nE,bX⟩:∃n,(v.ent Z).length=n:=⟨_,rfl⟩;have iJ:nE<=4096:=by rw[<-bX];exact hE
      have eF:Hid (∀(u:World)(X:ba),Mod u w0 (S0*X)->Calls Tryz.prog 85 #[ap e,.agg #[.int .u32 (Z:Int),.int .i64 aG,.string fl,.string fm]] u fun en w'=>∃Bn Y,en=.returned (.slice Bn nE Y)/\nE<=Y/\Mod w' w0 (ar 71 4 (.slice Bn nE Y) nE ((v.ent Z).flatMap ao.cells)*(S0*X))):=fun u X mu=>by
       have O:=dz.out u X ⟨Z,aG,fl,fm⟩ dJ mu;simp only[bX]at O;exact O
      have eU:=zbj bX;clear bX hE dJ;obtain⟨c0,c1,c2,c3⟩:=HF.out;go_upto_region 10 with fail
      obtain⟨gf,dK⟩:∃gf,wr.heap.size=gf:=⟨_,rfl⟩;have m5:Mod (wr.alloc (.cells #[.int .u32 (Z:Int),.int .i64 aG,.string fl,.string fm] 44)) w0 (aE gf (.cells #[.int .u32 (Z:Int),.int .i64 aG,.string fl,.string fm] 44 (0,0))*_):=Mod.alloc (m:=m4) (hn:=⟨dK⟩) _;rw[dK];generalize wr.alloc (.cells #[.int .u32 (Z:Int),.int .i64 aG,.string fl,.string fm] 44)=w3 at *;clear dK m4 c0 c1 c2 c3;have m3:=m5;clear m5;go_cut [6,7,28]from 29 to 57 (fun v6 v7 bJ wx=>bJ=.int .i64 (r:Int)/\∃(bL:Option Addr)(bS:Nat)(bK:Option Addr)(bR:Nat)(Bn:Option Addr)(Y:Nat),nE<=Y/\v6=.slice bL (z+1) bS/\v7=.slice bK (z+1) bR/\Mod wx w0 (ar 59 1 (.slice bL (z+1) bS) (z+1) (et I++[.slice Bn nE Y])*(ar 42 1 (.slice bK (z+1) bR) (z+1) (g3 dn++[.int .u32 (Z:Int)])*(ar 71 4 (.slice Bn nE Y) nE ((v.ent Z).flatMap ao.cells)*(G2*(LV*S0))))))
      case first =>
       refine wp_region_held_drew (S:=fun u=>u.cell? ⟨gf,0,none⟩=some (.int .u32 (Z:Int))/\u.cell? ⟨gf,1,none⟩=some (.int .i64 aG)/\u.cell? ⟨gf,2,none⟩=some (.string fl)/\u.cell? ⟨gf,3,none⟩=some (.string fm)) (by kernel_rfl) ⟨Za,Za,Za,Za⟩ (fun y=>?_);simp only[Zl,List.length_cons,List.length_nil,Nat.reduceAdd];obtain⟨W,hW⟩:∃W,W=w3.drew:=⟨_,rfl⟩;have mW:Mod W w0 _:=hW▸Mod.drew (m:=m3);rw[<-hW]at y ⊢;clear hW m3;refine Tk.go [(0,some 40),(1,some 41),(2,some 42),(6,some 46),(7,some 47),(8,some 48)] ?_
       repeat (
        refine Tk.gS (v:=?_) rfl (Or.inl ⟨by rfl,?_⟩) y ?_ (fun _ _ _ h=>h);rotate_left 1
        ·(intro u hu;(try dsimp only at hu);obtain⟨iN,iO,iP,iQ⟩:=hu;go_simp;try with_reducible rfl)
        simp only[Act.put,Zb,Zc,Zd])
       refine Tk.stop ?_;refine Mj 3 9 (some 43) (some 49) rfl rfl rfl rfl rfl rfl (fun K E=>?_) (fun K E=>?_)
       ·go_simp
        refine(eF.out W _ (Mod.pull (m:=mW) S0)).mono ?_;rintro en u1 ⟨Bn,Y,rfl,aW,aQ⟩;refine E.out (.slice Bn nE Y) _ ⟨Za,Za,Za,Za⟩ (fun y=>?_);clear E K;simp only[Act.put,Zb,Zc,Zd];clear mW;refine Mj 4 9 (some 44) (some 49) rfl rfl rfl rfl rfl rfl (fun K E=>?_) (fun K E=>?_)
        ·refine jN (t:=143) (v:=.slice Bn nE Y) rfl rfl rfl ?_
         obtain⟨gl,af⟩:∃x,u1.heap.size=x:=⟨_,rfl⟩;have aF:Mod (u1.alloc (.cells #[.slice Bn nE Y] 59)) w0 (aE gl (.cells #[.slice Bn nE Y] 59 (0,0))*_):=Mod.alloc (m:=aQ) (hn:=⟨af⟩) _;rw[af];generalize u1.alloc (.cells #[.slice Bn nE Y] 59)=u2 at *;refine E.out (.slice (some ⟨gl,0,none⟩) 1 1) _ ⟨Za,Za,Za,Za⟩ (fun y=>?_);clear E K;simp only[Act.put,Zb,Zc,Zd];clear af;clear aQ;refine Mj 5 9 (some 45) (some 49) rfl rfl rfl rfl rfl rfl (fun K E=>?_) (fun K E=>?_)
         ·refine cI (t:=143) rfl (Mod.pull (m:=aF) (ar 59 1 (.slice ah z aj) z (et I))) (v:=.slice ah z aj) (n:=z) (xs:=et I) rfl (A:=some ⟨gl,0,none⟩) (k:=1) (c:=1) (news:=[.slice Bn nE Y]) rfl (r:=ce rfl rfl) (by simp[Value.oneCell']) (by unfold maxLen;omega) (by omega) ?_
          intro av ay u3 aB;refine E.out (.slice av (z+1) ay) _ ⟨Za,Za,Za,Za⟩ (fun y=>?_);clear E K;simp only[Act.put,Zb,Zc,Zd];clear aF;refine g7 9 (some 49) rfl rfl rfl fun K E=>?_;refine jN (t:=128) (v:=.int .u32 (Z:Int)) rfl rfl rfl ?_;obtain⟨gg,ae⟩:∃x,u3.heap.size=x:=⟨_,rfl⟩;have aD:Mod (u3.alloc (.cells #[.int .u32 (Z:Int)] 42)) w0 (aE gg (.cells #[.int .u32 (Z:Int)] 42 (0,0))*_):=Mod.alloc (m:=aB) (hn:=⟨ae⟩) _;rw[ae];generalize u3.alloc (.cells #[.int .u32 (Z:Int)] 42)=u4 at *;refine E.out (.slice (some ⟨gg,0,none⟩) 1 1) _ ⟨Za,Za,Za,Za⟩ (fun y=>?_);clear E K;simp only[Act.put,Zb,Zc,Zd];clear ae;clear aB;refine g7 10 (some 50) rfl rfl rfl fun K E=>?_;refine cI (t:=128) rfl (Mod.pull (m:=aD) (ar 42 1 (.slice ag z ai) z (g3 dn))) (v:=.slice ag z ai) (n:=z) (xs:=g3 dn) rfl (A:=some ⟨gg,0,none⟩) (k:=1) (c:=1) (news:=[.int .u32 (Z:Int)]) rfl (r:=ce rfl rfl) (by simp[Value.oneCell']) (by unfold maxLen;omega) (by omega) ?_;intro au ax u5 aR;refine E.out (.slice au (z+1) ax) _ ⟨Za,Za,Za,Za⟩ (fun y=>?_);clear E K;simp only[Act.put,Zb,Zc,Zd];clear aD;refine Tk.go [(11,some 6),(12,some 7)] ?_
          repeat (
           refine Tk.gS (v:=?_) rfl (Or.inl ⟨by rfl,?_⟩) y ?_ (fun _ _ _ h=>h);rotate_left 1
           ·(intro u hu;(try dsimp only at hu);go_simp;try with_reducible rfl)
           simp only[Act.put,Zb,Zc,Zd])
          refine Tk.stop (mH ?_);clear y;go_wp2_with fail
          go_meet
          exact⟨rfl,av,ay,au,ax,Bn,Y,aW,rfl,rfl,Mod.keep aR⟩
         ·refine jN (t:=128) (v:=.int .u32 (Z:Int)) rfl rfl rfl ?_
          obtain⟨gg,ae⟩:∃x,u2.heap.size=x:=⟨_,rfl⟩;have aB:Mod (u2.alloc (.cells #[.int .u32 (Z:Int)] 42)) w0 (aE gg (.cells #[.int .u32 (Z:Int)] 42 (0,0))*_):=Mod.alloc (m:=aF) (hn:=⟨ae⟩) _;rw[ae];generalize u2.alloc (.cells #[.int .u32 (Z:Int)] 42)=u3 at *;refine E.out (.slice (some ⟨gg,0,none⟩) 1 1) _ ⟨Za,Za,Za,Za⟩ (fun y=>?_);clear E K;simp only[Act.put,Zb,Zc,Zd];clear ae;clear aF;refine g7 5 (some 45) rfl rfl rfl fun K E=>?_;refine cI (t:=143) rfl (Mod.pull (m:=aB) (ar 59 1 (.slice ah z aj) z (et I))) (v:=.slice ah z aj) (n:=z) (xs:=et I) rfl (A:=some ⟨gl,0,none⟩) (k:=1) (c:=1) (news:=[.slice Bn nE Y]) rfl (r:=ce rfl rfl) (by simp[Value.oneCell']) (by unfold maxLen;omega) (by omega) ?_;intro av ay u4 aD;refine E.out (.slice av (z+1) ay) _ ⟨Za,Za,Za,Za⟩ (fun y=>?_);clear E K;simp only[Act.put,Zb,Zc,Zd];clear aB;refine g7 10 (some 50) rfl rfl rfl fun K E=>?_;refine cI (t:=128) rfl (Mod.pull (m:=aD) (ar 42 1 (.slice ag z ai) z (g3 dn))) (v:=.slice ag z ai) (n:=z) (xs:=g3 dn) rfl (A:=some ⟨gg,0,none⟩) (k:=1) (c:=1) (news:=[.int .u32 (Z:Int)]) rfl (r:=ce rfl rfl) (by simp[Value.oneCell']) (by unfold maxLen;omega) (by omega) ?_;intro au ax u5 aR;refine E.out (.slice au (z+1) ax) _ ⟨Za,Za,Za,Za⟩ (fun y=>?_);clear E K;simp only[Act.put,Zb,Zc,Zd];clear aD;refine Tk.go [(11,some 6),(12,some 7)] ?_
          repeat (
           refine Tk.gS (v:=?_) rfl (Or.inl ⟨by rfl,?_⟩) y ?_ (fun _ _ _ h=>h);rotate_left 1
           ·(intro u hu;(try dsimp only at hu);go_simp;try with_reducible rfl)
           simp only[Act.put,Zb,Zc,Zd])
          refine Tk.stop (mH ?_);clear y;go_wp2_with fail
          go_meet
          exact⟨rfl,av,ay,au,ax,Bn,Y,aW,rfl,rfl,Mod.keep aR⟩
        ·refine jN (t:=128) (v:=.int .u32 (Z:Int)) rfl rfl rfl ?_
         obtain⟨gg,ae⟩:∃x,u1.heap.size=x:=⟨_,rfl⟩;have aF:Mod (u1.alloc (.cells #[.int .u32 (Z:Int)] 42)) w0 (aE gg (.cells #[.int .u32 (Z:Int)] 42 (0,0))*_):=Mod.alloc (m:=aQ) (hn:=⟨ae⟩) _;rw[ae];generalize u1.alloc (.cells #[.int .u32 (Z:Int)] 42)=u2 at *;refine E.out (.slice (some ⟨gg,0,none⟩) 1 1) _ ⟨Za,Za,Za,Za⟩ (fun y=>?_);clear E K;simp only[Act.put,Zb,Zc,Zd];clear ae;clear aQ;refine g7 4 (some 44) rfl rfl rfl fun K E=>?_;refine jN (t:=143) (v:=.slice Bn nE Y) rfl rfl rfl ?_;obtain⟨gl,af⟩:∃x,u2.heap.size=x:=⟨_,rfl⟩;have aB:Mod (u2.alloc (.cells #[.slice Bn nE Y] 59)) w0 (aE gl (.cells #[.slice Bn nE Y] 59 (0,0))*_):=Mod.alloc (m:=aF) (hn:=⟨af⟩) _;rw[af];generalize u2.alloc (.cells #[.slice Bn nE Y] 59)=u3 at *;refine E.out (.slice (some ⟨gl,0,none⟩) 1 1) _ ⟨Za,Za,Za,Za⟩ (fun y=>?_);clear E K;simp only[Act.put,Zb,Zc,Zd];clear af;clear aF;refine g7 5 (some 45) rfl rfl rfl fun K E=>?_;refine cI (t:=143) rfl (Mod.pull (m:=aB) (ar 59 1 (.slice ah z aj) z (et I))) (v:=.slice ah z aj) (n:=z) (xs:=et I) rfl (A:=some ⟨gl,0,none⟩) (k:=1) (c:=1) (news:=[.slice Bn nE Y]) rfl (r:=ce rfl rfl) (by simp[Value.oneCell']) (by unfold maxLen;omega) (by omega) ?_;intro av ay u4 aD;refine E.out (.slice av (z+1) ay) _ ⟨Za,Za,Za,Za⟩ (fun y=>?_);clear E K;simp only[Act.put,Zb,Zc,Zd];clear aB;refine g7 10 (some 50) rfl rfl rfl fun K E=>?_;refine cI (t:=128) rfl (Mod.pull (m:=aD) (ar 42 1 (.slice ag z ai) z (g3 dn))) (v:=.slice ag z ai) (n:=z) (xs:=g3 dn) rfl (A:=some ⟨gg,0,none⟩) (k:=1) (c:=1) (news:=[.int .u32 (Z:Int)]) rfl (r:=ce rfl rfl) (by simp[Value.oneCell']) (by unfold maxLen;omega) (by omega) ?_;intro au ax u5 aR;refine E.out (.slice au (z+1) ax) _ ⟨Za,Za,Za,Za⟩ (fun y=>?_);clear E K;simp only[Act.put,Zb,Zc,Zd];clear aD;refine Tk.go [(11,some 6),(12,some 7)] ?_
         repeat (
          refine Tk.gS (v:=?_) rfl (Or.inl ⟨by rfl,?_⟩) y ?_ (fun _ _ _ h=>h);rotate_left 1
          ·(intro u hu;(try dsimp only at hu);go_simp;try with_reducible rfl)
          simp only[Act.put,Zb,Zc,Zd])
         refine Tk.stop (mH ?_);clear y;go_wp2_with fail
         go_meet
         exact⟨rfl,av,ay,au,ax,Bn,Y,aW,rfl,rfl,Mod.keep aR⟩
       ·refine jN (t:=128) (v:=.int .u32 (Z:Int)) rfl rfl rfl ?_
        obtain⟨gg,ae⟩:∃x,W.heap.size=x:=⟨_,rfl⟩;have aQ:Mod (W.alloc (.cells #[.int .u32 (Z:Int)] 42)) w0 (aE gg (.cells #[.int .u32 (Z:Int)] 42 (0,0))*_):=Mod.alloc (m:=mW) (hn:=⟨ae⟩) _;rw[ae];generalize W.alloc (.cells #[.int .u32 (Z:Int)] 42)=u1 at *;refine E.out (.slice (some ⟨gg,0,none⟩) 1 1) _ ⟨Za,Za,Za,Za⟩ (fun y=>?_);clear E K;simp only[Act.put,Zb,Zc,Zd];clear ae;clear mW;refine g7 3 (some 43) rfl rfl rfl fun K E=>?_;go_simp
        refine(eF.out u1 _ (Mod.pull (m:=aQ) S0)).mono ?_;rintro en u2 ⟨Bn,Y,rfl,aW,aF⟩;refine E.out (.slice Bn nE Y) _ ⟨Za,Za,Za,Za⟩ (fun y=>?_);clear E K;simp only[Act.put,Zb,Zc,Zd];clear aQ;refine g7 4 (some 44) rfl rfl rfl fun K E=>?_;refine jN (t:=143) (v:=.slice Bn nE Y) rfl rfl rfl ?_;obtain⟨gl,af⟩:∃x,u2.heap.size=x:=⟨_,rfl⟩;have aB:Mod (u2.alloc (.cells #[.slice Bn nE Y] 59)) w0 (aE gl (.cells #[.slice Bn nE Y] 59 (0,0))*_):=Mod.alloc (m:=aF) (hn:=⟨af⟩) _;rw[af];generalize u2.alloc (.cells #[.slice Bn nE Y] 59)=u3 at *;refine E.out (.slice (some ⟨gl,0,none⟩) 1 1) _ ⟨Za,Za,Za,Za⟩ (fun y=>?_);clear E K;simp only[Act.put,Zb,Zc,Zd];clear af;clear aF;refine g7 5 (some 45) rfl rfl rfl fun K E=>?_;refine cI (t:=143) rfl (Mod.pull (m:=aB) (ar 59 1 (.slice ah z aj) z (et I))) (v:=.slice ah z aj) (n:=z) (xs:=et I) rfl (A:=some ⟨gl,0,none⟩) (k:=1) (c:=1) (news:=[.slice Bn nE Y]) rfl (r:=ce rfl rfl) (by simp[Value.oneCell']) (by unfold maxLen;omega) (by omega) ?_;intro av ay u4 aD;refine E.out (.slice av (z+1) ay) _ ⟨Za,Za,Za,Za⟩ (fun y=>?_);clear E K;simp only[Act.put,Zb,Zc,Zd];clear aB;refine g7 10 (some 50) rfl rfl rfl fun K E=>?_;refine cI (t:=128) rfl (Mod.pull (m:=aD) (ar 42 1 (.slice ag z ai) z (g3 dn))) (v:=.slice ag z ai) (n:=z) (xs:=g3 dn) rfl (A:=some ⟨gg,0,none⟩) (k:=1) (c:=1) (news:=[.int .u32 (Z:Int)]) rfl (r:=ce rfl rfl) (by simp[Value.oneCell']) (by unfold maxLen;omega) (by omega) ?_;intro au ax u5 aR;refine E.out (.slice au (z+1) ax) _ ⟨Za,Za,Za,Za⟩ (fun y=>?_);clear E K;simp only[Act.put,Zb,Zc,Zd];clear aD;refine Tk.go [(11,some 6),(12,some 7)] ?_
        repeat (
         refine Tk.gS (v:=?_) rfl (Or.inl ⟨by rfl,?_⟩) y ?_ (fun _ _ _ h=>h);rotate_left 1
         ·(intro u hu;(try dsimp only at hu);go_simp;try with_reducible rfl)
         simp only[Act.put,Zb,Zc,Zd])
        refine Tk.stop (mH ?_);clear y;go_wp2_with fail
        go_meet
        exact⟨rfl,av,ay,au,ax,Bn,Y,aW,rfl,rfl,Mod.keep aR⟩
      case rest =>
       obtain⟨rfl,bL,bS,bK,bR,Bn,Y,aW,rfl,rfl,m6⟩:=hcut;clear m3;cases la
       all_goals
        go_wp2_with fail
        go_roundg (ni-(r+1))
        case measure=>omega
        case rel =>
         have cO:sd++li.take (r+1)=dn++[⟨Z,aG,fl,fm⟩]:=by rw[dD.out,<-Zr,gP.out]
         refine⟨r+1,z+1,bS,bR,bL,bK,I++[⟨Bn,Y,v.ent Z⟩],ar 71 4 (.slice Bn nE Y) nE ((v.ent Z).flatMap ao.cells)*G2,az,rfl,rfl,rfl,rfl,by go_num,by show _=_;have:=bq.out;omega,?_,?_,?_⟩
         ·show _=_
          rw[cO,ZP,ZP,dF.out];rfl
         ·have hx:=eU.out
          refine cu.out.more (r:=⟨Bn,Y,v.ent Z⟩) ?_ (by show (v.ent Z).length<=Y;omega) (by show (v.ent Z).length≤_;omega);show bp _ Bn (v.ent Z).length (v.ent Z);rw[hx];exact⟨hx,fh (by decide)⟩
         ·rw[cO,Da,s4 _ _ _ _ _ eU.out]
          exact Mod.keep m6
     ·have bF:r=ni:=by omega
      subst bF;have aO:¬(r:Int)<(r:Int):=by omega
      have dR:li.take r=li:=Zn (by rw[bf.out];exact Zm _);rw[dR]at m4 dF;go_wp2_with fail
      go_roundg (4-(i+1))
      case measure=>omega
      case rel =>
       have O:=aZ.out;have h2:=aS.out;rw[if_pos fA]at O;rw[decide_eq_true fA,zbd,Bool.and_true]at h2;refine⟨i+1,z,aj,ai,ah,ag,la,I,G2,by omega,rfl,rfl,rfl,rfl,by go_num,?_,?_,?_,cu.out,?_⟩
       ·show _=_
        rw[O,Ze,bf.out,aV.out,bq.out]
       ·show _=_
        rw[O];exact dF.out
       ·show _=_
        rw[h2];exact bP.out
       ·rw[O];exact m4
   ·
    go_loopg [6,7,8,28] ni (fun gk v6 v7 v8 bJ dX=>∃(r:Nat),r<=ni/\gk=ni-r/\v6=.slice Al J cl/\v7=.slice Ag J cg/\v8=.bool (la&&decide (r=0))/\bJ=.int .i64 (r:Int)/\Mod dX w0 (ar 59 1 (.slice Al J cl) J (et runs)*(ar 42 1 (.slice Ag J cg) J (g3 sd)*(G*(LV*S0)))))
    case atStart=>exact⟨0,Zv _,rfl,rfl,rfl,by simp,rfl,m3⟩
    case round =>
     obtain⟨r,hr,fu,rfl,rfl,rfl,rfl,m4⟩:=hrel;by_cases az:r<ni
     ·have aO:(r:Int)<(ni:Int):=by omega
      have bE:r<li.length:=by rw[bf.out];exact az
      have rI:=RI.out;obtain⟨b,o,rfl⟩:∃b o,Ai=some ⟨b,o,none⟩:=j8 (Mod.pull (m:=m4) LV) (rI.lift zbk) az;have HF:=zbj (oL rI bE);clear rI;generalize li[r]=f at *;obtain⟨Z,aG,fl,fm⟩:=f;obtain⟨c0,c1,c2,c3⟩:=HF.out;generalize iy:(la&&decide (r=0))=lb at *;clear iy;cases lb
      all_goals
       go_wp2_with fail
       go_roundg (ni-(r+1))
       case measure=>omega
       case rel=>exact⟨r+1,az,rfl,rfl,rfl,by simp,by go_num,Mod.keep (Mod.alloc (m:=m4) (.cells #[.int .u32 (Z:Int),.int .i64 aG,.string fl,.string fm] 44) (n:=wr.heap.size) (hn:=⟨rfl⟩))⟩
     ·have bF:r=ni:=by omega
      subst bF;have aO:¬(r:Int)<(r:Int):=by omega
      go_wp2_with fail
      go_roundg (4-(i+1))
      case measure=>omega
      case rel =>
       have O:=aZ.out;have h2:=aS.out;rw[if_neg (show ¬(i:Int)<=tl by omega),ZH]at O
       have h3:li.isEmpty=decide (r=0):=by
        rw[<-bf.out,XI,Xn,decide_eq_true_eq,Xz]
       rw[decide_eq_false (show ¬(i:Int)<=tl by omega),za5,h3]at h2;refine⟨i+1,J,cl,cg,Al,Ag,la&&decide (r=0),runs,G,by omega,rfl,rfl,rfl,by first | rfl | simp,by go_num,?_,?_,?_,bO.out,?_⟩
       ·show _=_
        rw[O];exact aV.out
       ·show _=_
        rw[O];exact bu.out
       ·show _=_
        rw[h2,bP.out]
       ·rw[O];exact m4
  ·have hi:i=4:=by omega
   subst hi;have aH:ta tl l 4=v.sel tl:=by rw[Cx,<-HL.out]
   have bW:la=v.last tl:=by rw[bP.out,Gv ed.out,<-HL.out]
   have hE:km runs=v.qH tl:=by rw[IV bu.out,aH]
   rw[aH]at m3;have dx:Hid ((v.sel tl).length=J):=by show _=_;rw[<-aH];exact aV.out
   have bY:J<=400:=by have:=cz.out 4 (Zm _);rw[aV.out]at this;omega
   subst bW;clear aH aV bP;by_cases h0:J=0
   ·subst h0
    go_wp2_with fail
    (try rw[Exit.noGoto_ret])
    refine bodyPost_ret (results_none rfl _ _ _) rfl ?_;have dh:v.sel tl=[]:=Xz.1 dx.out;refine⟨rfl,v,U,A,c,(HC.out.lv (by rw[Nl fP.1 dh];exact Zv _)).mono (by omega) (Zm _),⟨rfl,rfl,rfl,rfl,rfl,rfl,rfl,rfl,rfl,fun f hf hl=>?_⟩,M.out.2.2.1,?_⟩
    ·have O:=(mU (tl:=tl) HC.out.disk.lev f).2 ⟨hf,hl⟩
     rw[show Dm tl v.k.files=[]from dh]at O;cases O
    ·rw[<-eO.out]
     exact Mod.keep m3
   ·have gT:((J:Int)==0)=false:=beq_eq_false_iff_ne.2 (by omega)
    have aL:=HC.out.toEnCore.IM M.out.1 (tl:=tl)
    have dO:(v.qH tl).length<=N:=by
     have O:=(HC.out.toEnCore.parts M.out.1 tl).length_eq;have h2:=HC.out.many;rw[Ze]at O;omega
    have aU:∀r∈runs,fc r.l:=fun r hr=>by
     have O:r.l∈runs.map (·.l):=ZC hr;rw[bu.out]at O;obtain⟨f,hf,e⟩:=Zz.1 O
     have ic:f∈v.k.files:=by
      rw[Cx,<-HL.out]at hf;exact((mU HC.out.disk.lev f).1 hf).1
     rw[<-e];exact(HC.out.disk.each f ic).here.ok.rise
    have bN:=zbj (vN Al J cl runs (by omega) aU (by rw[hE];exact aL) (by rw[hE];omega) wr w0 _ m3 zbk (bO.out.lift zbk));rw[hE]at bN;obtain⟨NA,dG⟩:∃n,(v.qH tl).length=n:=⟨_,rfl⟩;rw[dG]at bN dO;have eu:=zbj dG;have aY:=zbj aL;clear hE aL aU dG;go_wp2_with (go_at_call 86;refine bN.out.mono ?_;rintro ex w4 ⟨BM,cM,rfl,m4⟩;refine Hid.out ?_)
    refine zbj ?_;have m5:Mod w4 w0 (ar 71 4 (.slice BM NA cM) NA ((ij (v.qH tl)).flatMap ao.cells)*(ar 42 1 (.slice Ag J cg) J (g3 (v.sel tl))*S0)):=Mod.keep m4;clear m4 m3 bN bO bu dz dw;rw[eO.out]at m5;go_wp2_with (go_at_call 34;refine(g4 _ w0 _ m5).mono ?_;rintro ex w6 ⟨rfl,m6⟩;refine Hid.out ?_)
    refine zbj ?_;have gW:NA<=cM:=i7 m6;clear m5;go_upto_region 18 with fail
    obtain⟨gl,af⟩:∃gl,w6.heap.size=gl:=⟨_,rfl⟩;have m7:Mod (w6.alloc (.cells #[.int .u64 (v.seq:Int)] 29)) w0 (aE gl (.cells #[.int .u64 (v.seq:Int)] 29 (0,0))*_):=Mod.alloc (m:=m6) (hn:=⟨af⟩) _;rw[af];generalize w6.alloc (.cells #[.int .u64 (v.seq:Int)] 29)=w8 at *;clear af m6;have m8:Mod w8 w0 (ar 29 1 (.slice (some ⟨gl,0,none⟩) 1 1) 1 (pP [v.seq])*_):=me m7 (Zm _) (by decide) rfl rfl rfl;clear m7;go_wp2_with fail
    obtain⟨RR,dH⟩:∃X,X=ar 71 4 (.slice BM NA cM) NA ((ij (v.qH tl)).flatMap ao.cells)*(ar 42 1 (.slice Ag J cg) J (g3 (v.sel tl))*fL V p U v.num v.xs.length A c v.k v.D (al [] (cf v.xs)).length (jT e p (ap V) (ap ej) (ap t) (.int .u64 (v.seq:Int)) (.int .u64 (v.sure:Int)) (.map (some hm))*(im t v.T*(dt ej p (ez v.k.al) (al [] (v.ws.map fy)).length*F)))):=⟨_,rfl⟩
    have m9:Mod (w8.lh hm) w0 (U64.kQ w8.heap.size hm (g6 v.H) (g6 v.H) none*(ar 29 1 (.slice (some ⟨gl,0,none⟩) 1 1) 1 (pP [v.seq])*RR)):=by
     rw[dH];exact Mod.keep (zbk:Mod (w8.lh hm) w0 _)
    have gL:=zbj dH;have iM:=HC.out.toEnCore.OI;clear dH m8;generalize w8.heap.size=it at *;go_loopg [15] v.H.length (fun gk iG wr=>∃(left:List (Nat×Nat))(eY:Option (Nat×Value))(AL:Option Addr)(nL cL:Nat)(ls:List Nat),Hid (gk=left.length)/\iG=.slice AL nL cL/\Hid (ls.length=nL)/\nL+left.length=v.H.length+1/\Hid (∀s,s∈v.looks↔s∈ls\/s∈left.map (·.1))/\Mod wr w0 (U64.kQ it hm (g6 v.H) (g6 left) eY*(ar 29 1 (.slice AL nL cL) nL (pP ls)*RR)))
    case atStart=>exact⟨v.H,none,some ⟨gl,0,none⟩,1,1,[v.seq],rfl,rfl,rfl,by omega,(fun s=>by show s∈v.seq::_↔_;simp),m9⟩
    case round =>
     obtain⟨left,eY,AL,nL,cL,ls,eT,rfl,eX,fM,bQ,dS⟩:=hrel
     go_wp2_with first
      | (refine U64.nS rfl (.tmp 78) rfl rfl dS ?_ ?_)
     ·intro hl w' bZ
      have iw:left=[]:=by simpa [g6]using hl
      subst iw;have bH:=U64.zF bZ;rw[gL.out]at bH;clear dS bZ m9 hl;have fB:∀s∈v.looks,s∈ls:=fun s hs=>by have:=(bQ.out s).1 hs;simpa using this
      have fC:∀s∈ls,s<18446744073709551616:=fun s hs=>by
       have O:=(bQ.out s).2 (.inl hs);have h2:=HC.out.seq;rcases Zu.1 O with rfl | O
       ·omega
       ·obtain⟨q,hq,rfl⟩:=Zz.1 O
        have:=(HC.out.held q hq).1;omega
      have fK:∀x∈ij (v.qH tl),x.seq<18446744073709551616:=fun x hx=>by
       have h2:=(jk (v.qH tl)).mem_iff.1 hx;exact(HC.out.toEnCore.ok x ((HC.out.toEnCore.parts M.out.1 tl).mem_iff.2 (ZN _ h2))).1.seq
      have fE:nL<=1000000:=by simp only[List.length_nil]at fM;omega
      have bC:(ij (v.qH tl)).length=NA:=by rw[(jk _).length_eq];exact eu.out
      have fI:bp (ar 71 4 (.slice BM NA cM) NA ((ij (v.qH tl)).flatMap ao.cells)) BM NA (ij (v.qH tl)):=⟨bC,fh (by decide)⟩;have dC:=zbj (Ev BM NA cM (ij (v.qH tl)) AL nL cL ls (v.last tl) (by omega) gW fE fC fK (pR aY.out) w' w0 _ bH (fI.lift zbk) ⟨zbk,eX.out⟩);have eP:=zbj (HC.out.toEnCore.MC M.out.1 (tl:=tl) (ls:=ls));have eQ:=zbj (HC.out.toEnCore.Fh M.out.1 (tl:=tl) (ls:=ls));have gM:=HC.out.toEnCore.yz M.out.1 (tl:=tl) (ls:=ls);have gB:=zbj (HC.out.toEnCore.L2 M.out.1 hN (tl:=tl) (ls:=ls));have fD:=HC.out.toEnCore.M7 M.out.1 hN (tl:=tl) (ls:=ls);have ek:=zbj fB;obtain⟨NT,bT⟩:∃n,(v.thin tl ls).length=n:=⟨_,rfl⟩;rw[show (ox (ij (v.qH tl)) ls (v.last tl)).length=NT from bT]at dC;rw[bT]at gM;have eB:=zbj bT;clear fI fB fC fK bC bT eT bQ aY eu;go_wp2_with (go_at_call 88;refine dC.out.mono ?_;rintro ex iV ⟨AT,cT,rfl,fT⟩;refine Hid.out ?_)
      refine zbj ?_;clear bH dC;go_wp2_with (go_at_call 34;refine(g4 _ w0 _ fT).mono ?_;rintro ex iW ⟨rfl,dU⟩;refine Hid.out ?_)
      refine zbj ?_;have gX:NT<=cT:=i7 dU;clear fT;obtain⟨nk,aP⟩:∃n,v.k.next=n:=⟨_,rfl⟩;obtain⟨kj,dM⟩:∃n,v.k.al=n:=⟨_,rfl⟩;obtain⟨ks,dN⟩:∃n,v.k.seq=n:=⟨_,rfl⟩;obtain⟨nc,bD⟩:∃n,(v.mcs tl ls).length=n:=⟨_,rfl⟩;have iA:=HC.out.next;have iC:=HC.out.num;rw[aP]at iA;rw[bD]at fD
      have eD:Hid (∀(u:World)(X:ba),Mod u w0 (gA V p (ap U) v.num v.xs.length (.slice A v.k.files.length v.k.files.length) v.k.nums*X)->Calls Tryz.prog 69 #[ap V] u fun en w'=>en=.returned (.int .u32 (nk:Int))/\Mod w' w0 (gA V p (ap U) v.num v.xs.length (.slice A v.k.files.length v.k.files.length) v.k.nums*X)):=fun u X mu=>by
       have O:=zU V p (ap U) v.num v.xs.length (.slice A v.k.files.length v.k.files.length) v.k.nums u w0 X mu;rw[show v.k.nums.2.1=nk from aP]at O;exact O
      have gJ:Hid (∀(u:World)(X:ba),Mod u w0 (gA V p (ap U) v.num v.xs.length (.slice A v.k.files.length v.k.files.length) v.k.nums*X)->Calls Tryz.prog 58 #[ap V] u fun en w'=>en=.returned (.int .u32 (kj:Int))/\Mod w' w0 (gA V p (ap U) v.num v.xs.length (.slice A v.k.files.length v.k.files.length) v.k.nums*X)):=fun u X mu=>by
       have O:=n7 V p (ap U) v.num v.xs.length (.slice A v.k.files.length v.k.files.length) v.k.nums u w0 X mu;rw[show v.k.nums.1=kj from dM]at O;exact O
      have gK:Hid (∀(u:World)(X:ba),Mod u w0 (gA V p (ap U) v.num v.xs.length (.slice A v.k.files.length v.k.files.length) v.k.nums*X)->Calls Tryz.prog 56 #[ap V] u fun en w'=>en=.returned (.int .u64 (ks:Int))/\Mod w' w0 (gA V p (ap U) v.num v.xs.length (.slice A v.k.files.length v.k.files.length) v.k.nums*X)):=fun u X mu=>by
       have O:=Co V p (ap U) v.num v.xs.length (.slice A v.k.files.length v.k.files.length) v.k.nums u w0 X mu;rw[show v.k.nums.2.2=ks from dN]at O;exact O
      have dB:=zbj (HC.out.toEnCore.NK M.out.2.2.2 (by omega) dP (l:=v.thin tl ls) (by rw[eB.out];omega) eP.out eQ.out M.out.2.1 hN)
      have gH:Hid (∀(u:World)(X:ba),Mod u w0 (bv p v.D*(jT e p (ap V) (ap ej) (ap t) (.int .u64 (v.seq:Int)) (.int .u64 (v.sure:Int)) (.map (some hm))*X))->bp X AT NT (v.thin tl ls)->fX X->Calls Tryz.prog 70 #[ap e,.slice AT NT cT,.int .i64 tl,.int .u32 (nk:Int)] u fun en w'=>∃A' c' D1,en=.returned (.slice A' nc c')/\nc<=c'/\Hid (qQ v.D v.k.next (v.mcs tl ls) D1)/\Mod w' w0 (bv p {D1 with sure:=D1.now}*(ar 44 4 (.slice A' nc c') nc ((cX tl v.k.next (v.mcs tl ls)).flatMap bi.cells)*(jT e p (ap V) (ap ej) (ap t) (.int .u64 (v.seq:Int)) (.int .u64 (v.sure:Int)) (.map (some hm))*X)))):=fun u X mu hr ht=>by
       have O:=Cj e p (ap V) (ap ej) (ap t) (.int .u64 (v.seq:Int)) (.int .u64 (v.sure:Int)) (.map (some hm)) v.D AT NT cT (v.thin tl ls) tl v.k.next eP.out eQ.out gX (fun c hc=>(gB.out c hc).2) (by rw[aP,show (dl (v.thin tl ls)).length=nc from bD];omega) dB.out u w0 X mu hr ht (by omega);rw[show (dl (v.thin tl ls)).length=nc from bD,aP]at O;rw[aP];exact O
      have HE:=zbj (And.intro aP (And.intro dM (And.intro dN bD)));have iR:IntKind.u32.wrap (nc:Int)=(nc:Int):=by rw[IntKind.wrap_u32];omega
      have iT:IntKind.u32.wrap ((nk:Int)+(nc:Int))=((nk+nc:Nat):Int):=by rw[IntKind.wrap_u32];omega
      clear aP dM dN bD;go_wp2_with (go_at_call 69;refine(eD.out _ _ (Mod.pull (m:=dU) (gA V p (ap U) v.num v.xs.length (.slice A v.k.files.length v.k.files.length) v.k.nums))).mono ?_;rintro ex iX ⟨rfl,fU⟩;refine Hid.out ?_)
      refine zbj ?_;clear dU;go_wp2_with (go_at_call 70;refine(gH.out _ _ (Mod.z9 (m:=fU) (bv p v.D) (jT e p (ap V) (ap ej) (ap t) (.int .u64 (v.seq:Int)) (.int .u64 (v.sure:Int)) (.map (some hm)))) ((show bp (ar 71 4 (.slice AT NT cT) NT ((v.thin tl ls).flatMap ao.cells)) AT NT (v.thin tl ls)from ⟨eB.out,fh (by decide)⟩).lift zbk) (bg.out.lift zbk)).mono ?_;rintro ex gu ⟨A3,c3,D1,rfl,gV,bM,fV⟩;refine Hid.out ?_)
      refine zbj ?_;clear fU;have dV:Mod gu w0 (bv p {D1 with sure:=D1.now}*(gA V p (ap U) v.num v.xs.length (.slice A v.k.files.length v.k.files.length) v.k.nums*(dt U p (cD v.num) (al [] (cf v.xs)).length*(kJ A c v.k.files*(ar 44 4 (.slice A3 nc c3) nc ((cX tl v.k.next (v.mcs tl ls)).flatMap bi.cells)*(ar 42 1 (.slice Ag J cg) J (g3 (v.sel tl))*(jT e p (ap V) (ap ej) (ap t) (.int .u64 (v.seq:Int)) (.int .u64 (v.sure:Int)) (.map (some hm))*(im t v.T*(U64.gv hm (g6 v.H)*(dt ej p (ez v.k.al) (al [] (v.ws.map fy)).length*F)))))))))):=Mod.keep fV;clear fV;have aT:cJ {D1 with sure:=D1.now}:=p7 dV (zbk:eM _ (bv p) {D1 with sure:=D1.now} _);have fw:=ux v.k.al;have bU:=HC.out.toEnCore.files;have e1:=HC.out.disk.laid bM.out (Zm _) (by rw[HE.out.1,HE.out.2.2.2];omega) aT.keys (by rw[HE.out.2.2.2];omega);have HG:=zbj (HC.out.toEnCore.Oa dP M.out.1 hN dE.out (by omega) e1 aT (by rw[Ze,ZW,XK,HE.out.2.2.2];omega) ((tx bM.out).1.trans M.out.2.1) (ls:=ls));have gI:=zbj e1.man;have gG:=zbj aT.keys;clear aT e1 bU fw;have aM:(v.nH tl ls).added.length=nc:=by rw[<-HE.out.2.2.2];exact lo tl _ _
      have aX:(v.nH tl ls).removed.length=J:=by rw[<-dx.out];exact ZW _
      have gz:Hid (∀(u:World),Mod u w0 (fL V p U v.num v.xs.length A c v.k {D1 with sure:=D1.now} (al [] (cf v.xs)).length (ar 44 4 (.slice A3 nc c3) nc ((cX tl v.k.next (v.mcs tl ls)).flatMap bi.cells)*(ar 42 1 (.slice Ag J cg) J (g3 (v.sel tl))*(jT e p (ap V) (ap ej) (ap t) (.int .u64 (v.seq:Int)) (.int .u64 (v.sure:Int)) (.map (some hm))*(im t v.T*(U64.gv hm (g6 v.H)*(dt ej p (ez v.k.al) (al [] (v.ws.map fy)).length*F)))))))->Calls Tryz.prog 75 #[ap V,.agg #[.slice A3 nc c3,.slice Ag J cg,.int .u32 (kj:Int),.int .u32 ((nk+nc:Nat):Int),.int .u64 (ks:Int)]] u fun en w'=>∃(D5:aq)(aa:Nat)(ak:List db)(aI:Nat)(A5:Option Addr)(c5:Nat),en=.returned (.int .i64 0)/\Hid (jG D5 aa ak (v.lu tl ls)/\ki {D1 with sure:=D1.now} D5/\aa<=v.num+2/\(v.lu tl ls).files.length<=c5)/\Mod w' w0 (fL V p aI aa ak.length A5 c5 (v.lu tl ls) D5 (al [] (cf ak)).length (ar 44 4 (.slice A3 nc c3) nc ((cX tl v.k.next (v.mcs tl ls)).flatMap bi.cells)*(ar 42 1 (.slice Ag J cg) J (g3 (v.sel tl))*(jT e p (ap V) (ap ej) (ap t) (.int .u64 (v.seq:Int)) (.int .u64 (v.sure:Int)) (.map (some hm))*(im t v.T*(U64.gv hm (g6 v.H)*(dt ej p (ez v.k.al) (al [] (v.ws.map fy)).length*F)))))))):=fun u mu=>by
       have gY:J<=cg:=rL (m:=Mod.pull (m:=mu) (ar 42 1 (.slice Ag J cg) J (g3 (v.sel tl))));have iD:du (ar 44 4 (.slice A3 nc c3) nc ((cX tl v.k.next (v.mcs tl ls)).flatMap bi.cells)) A3 nc (cX tl v.k.next (v.mcs tl ls)):=⟨aM,fh (by decide)⟩;have bF:ku (ar 42 1 (.slice Ag J cg) J (g3 (v.sel tl))) Ag J (v.rem tl):=⟨aX,by rw[xS];infer_instance⟩;have hr:kW (ar 44 4 (.slice A3 nc c3) nc ((cX tl v.k.next (v.mcs tl ls)).flatMap bi.cells)*(ar 42 1 (.slice Ag J cg) J (g3 (v.sel tl))*(jT e p (ap V) (ap ej) (ap t) (.int .u64 (v.seq:Int)) (.int .u64 (v.sure:Int)) (.map (some hm))*(im t v.T*(U64.gv hm (g6 v.H)*(dt ej p (ez v.k.al) (al [] (v.ws.map fy)).length*F)))))) ⟨A3,c3,Ag,cg⟩ (v.nH tl ls):=⟨by rw[aM];exact iD.lift zbk,by rw[aX];exact bF.lift zbk,HC.out.toEnCore.L3 M.out.1 hN (by omega),HC.out.toEnCore.EK,by rw[aM];omega,by rw[aX];omega,HC.out.disk.man.know.al,by show v.k.next+(v.mcs tl ls).length<_;rw[HE.out.1,HE.out.2.2.2];omega,HC.out.disk.man.know.seq,by rw[aM];exact gV,by rw[aX];exact gY⟩;have O:=Cn V p U v.num A c v.k {D1 with sure:=D1.now} v.xs ⟨A3,c3,Ag,cg⟩ (v.nH tl ls) u w0 _ mu gI.out hr (bg.out.lift zbk) (by omega) (by rw[aM];have:=HC.out.toEnCore.files;omega) M.out.2.2.1
       have ec:jW ⟨A3,c3,Ag,cg⟩ (v.nH tl ls)=#[.slice A3 nc c3,.slice Ag J cg,.int .u32 (kj:Int),.int .u32 ((nk+nc:Nat):Int),.int .u64 (ks:Int)]:=by
        unfold jW;rw[aM,aX,<-HE.out.1,<-HE.out.2.1,<-HE.out.2.2.1,<-HE.out.2.2.2]
       rw[ec]at O;refine O.mono ?_;rintro en w' ⟨r,D5,aa,ak,k5,aI,A5,c5,rfl,q1,q2,q3,q4,q5,q6⟩;rcases q4 with⟨rfl,q4,_⟩ | ⟨_,_,iB,_⟩
       ·rw[HC.out.toEnCore.mergeD M.out.1 hN dE.out]at q4
        obtain rfl:=X5 q4;exact⟨D5,aa,ak,aI,A5,c5,rfl,⟨q1,q2,q3,q5⟩,q6⟩
       ·exact absurd HG.out iB
      clear aM aX;go_wp2_with fail
      refine wp_region_held_drew (S:=fun u=>u.cell? ⟨e,1,none⟩=some (ap V)) (by kernel_rfl) Za (fun y=>?_);simp only[Zl,List.length_cons,List.length_nil,Nat.reduceAdd];obtain⟨W,hW⟩:∃W,W=gu.drew:=⟨_,rfl⟩;have mW:Mod W w0 _:=hW▸Mod.drew (m:=dV);rw[<-hW]at y ⊢;clear hW dV;refine Tk.go [(0,some 105),(1,some 106),(2,some 107),(3,some 108),(4,some 109),(5,some 110),(6,some 111),(7,some 112),(8,some 113),(9,some 114),(11,some 116),(12,some 117),(13,some 118),(14,some 119),(16,some 121),(17,some 122),(18,some 123),(20,some 125),(21,some 126),(22,some 127),(23,some 128)] ?_
      repeat (
       refine Tk.gS (v:=?_) rfl (Or.inl ⟨by rfl,?_⟩) y ?_ (fun _ _ _ h=>h);rotate_left 1
       ·(intro u hu;(try dsimp only at hu);go_simp;try with_reducible rfl)
       simp only[Act.put,Zb,Zc,Zd])
      refine Tk.stop (g7 10 (some 115) rfl rfl rfl fun K E=>?_);go_simp
      refine(gJ.out _ _ (Mod.pull (m:=mW) (gA V p (ap U) v.num v.xs.length (.slice A v.k.files.length v.k.files.length) v.k.nums))).mono ?_;rintro ex wa ⟨rfl,ma⟩;clear mW;refine E.out (.int .u32 (kj:Int)) _ Za (fun y=>?_);clear E K;simp only[Act.put,Zb,Zc,Zd];refine(g7 15 (some 120) rfl rfl rfl fun K E=>?_);go_simp
      refine(eD.out _ _ (Mod.pull (m:=ma) (gA V p (ap U) v.num v.xs.length (.slice A v.k.files.length v.k.files.length) v.k.nums))).mono ?_;rintro ex wb ⟨rfl,mb⟩;clear ma;refine E.out (.int .u32 (nk:Int)) _ Za (fun y=>?_);clear E K;simp only[Act.put,Zb,Zc,Zd];refine Tk.go [(19,some 124)] ?_
      repeat (
       refine Tk.gS (v:=?_) rfl (Or.inl ⟨by rfl,?_⟩) y ?_ (fun _ _ _ h=>h);rotate_left 1
       ·(intro u hu;(try dsimp only at hu);go_simp;try with_reducible rfl)
       simp only[Act.put,Zb,Zc,Zd])
      refine Tk.stop (g7 24 (some 129) rfl rfl rfl fun K E=>?_);go_simp
      refine(gK.out _ _ (Mod.pull (m:=mb) (gA V p (ap U) v.num v.xs.length (.slice A v.k.files.length v.k.files.length) v.k.nums))).mono ?_;rintro ex ja ⟨rfl,gp⟩;clear mb;refine E.out (.int .u64 (ks:Int)) _ Za (fun y=>?_);clear E K;simp only[Act.put,Zb,Zc,Zd];refine Tk.go [(25,some 130)] ?_
      repeat (
       refine Tk.gS (v:=?_) rfl (Or.inl ⟨by rfl,?_⟩) y ?_ (fun _ _ _ h=>h);rotate_left 1
       ·(intro u hu;(try dsimp only at hu);go_simp;try with_reducible rfl)
       simp only[Act.put,Zb,Zc,Zd])
      refine Tk.stop (g7 26 (some 131) rfl rfl rfl fun K E=>?_);go_simp
      refine(gz.out _ (Mod.keep gp)).mono ?_;rintro ex wd ⟨D5,aa,ak,aI,A5,c5,rfl,bz,md⟩;clear gp;refine E.out (.int .i64 0) _ Za (fun y=>?_);clear E K;simp only[Act.put,Zb,Zc,Zd];refine(g7 27 (some 132) rfl rfl rfl fun K E=>?_);go_simp
      refine(g4 _ w0 _ md).mono ?_;rintro ex iI ⟨rfl,dW⟩;clear md;refine E.out (.tuple #[]) _ Za (fun y=>?_);clear E K;simp only[Act.put,Zb,Zc,Zd];refine mH ?_;clear y;go_wp2_with fail
      obtain⟨rem,aJ⟩:∃r,v.rem tl=r:=⟨_,rfl⟩;have fJ:rem.length=J:=by rw[<-aJ,<-dx.out];exact ZW _
      have dA:=zbj fJ;have di:∀n∈rem,n<4294967296:=by rw[<-aJ];exact HC.out.toEnCore.EK
      have eH:=zbj di;have gF:=zbj (fun(n:Nat)(u:World)(G:ba)(hn:n<4294967296)(hG:Sub G F)(mu:Mod u w0 G)=>lQ n hn u w0 G mu (bg.out.lift hG));have fG:g3 (v.sel tl)=rem.map fun n:Nat=>Value.int .u32 (n:Int):=by rw[xS,<-aJ]
      rw[fG]at dW;have eG:=zbj aJ;clear fJ di fG aJ
      have fZ:Mod iI w0 (bv p (mh D5 (rem.take 0))*(ar 42 1 (.slice Ag J cg) J (rem.map fun n:Nat=>Value.int .u32 (n:Int))*(jT e p (ap V) (ap ej) (ap t) (.int .u64 (v.seq:Int)) (.int .u64 (v.sure:Int)) (.map (some hm))*(gA V p (ap aI) aa ak.length (.slice A5 (v.lu tl ls).files.length (v.lu tl ls).files.length) (v.lu tl ls).nums*(dt aI p (cD aa) (al [] (cf ak)).length*(kJ A5 c5 (v.lu tl ls).files*(im t v.T*(U64.gv hm (g6 v.H)*(dt ej p (ez v.k.al) (al [] (v.ws.map fy)).length*F))))))))):=by
       have e0:mh D5 (rem.take 0)=D5:=by rw[List.take_zero];rfl
       rw[e0];exact Mod.keep dW
      clear dW;go_loopg [135] J (fun gk gq wr=>∃i:Nat,i<=J/\gk=J-i/\gq=.int .i64 (i:Int)/\Mod wr w0 (bv p (mh D5 (rem.take i))*(ar 42 1 (.slice Ag J cg) J (rem.map fun n:Nat=>Value.int .u32 (n:Int))*(jT e p (ap V) (ap ej) (ap t) (.int .u64 (v.seq:Int)) (.int .u64 (v.sure:Int)) (.map (some hm))*(gA V p (ap aI) aa ak.length (.slice A5 (v.lu tl ls).files.length (v.lu tl ls).files.length) (v.lu tl ls).nums*(dt aI p (cD aa) (al [] (cf ak)).length*(kJ A5 c5 (v.lu tl ls).files*(im t v.T*(U64.gv hm (g6 v.H)*(dt ej p (ez v.k.al) (al [] (v.ws.map fy)).length*F))))))))))
      case atStart=>exact⟨0,Zv _,rfl,rfl,fZ⟩
      case round =>
       obtain⟨i,hi,ig,rfl,bI⟩:=hrel;clear fZ;by_cases aN:i<J
       ·have df:(i:Int)<(J:Int):=by omega
        have bV:i<rem.length:=by rw[dA.out];exact aN
        have fF:=eH.out _ (Zq bV);have rN:ku (ar 42 1 (.slice Ag J cg) J (rem.map fun n:Nat=>Value.int .u32 (n:Int))) Ag J rem:=⟨dA.out,zbk⟩;obtain⟨b,o,rfl⟩:=wQ (Mod.pull (m:=bI) (ar 42 1 (.slice Ag J cg) J (rem.map fun n:Nat=>Value.int .u32 (n:Int)))) (rN.lift zbk) aN;have ck:=GG rN bV;have dD:Hid (rem.take (i+1)=rem.take i++[rem[i]]):=Zx bV;generalize rem[i]=nr at *;clear rN bV;go_wp2_with fail
        refine wp_region_held_drew (S:=fun u=>u.cell? ⟨e,0,none⟩=some (ap p)) (by kernel_rfl) Za (fun y=>?_);simp only[Zl,List.length_cons,List.length_nil,Nat.reduceAdd];obtain⟨W,hW⟩:∃W,W=wr.drew:=⟨_,rfl⟩;have mW:Mod W w0 _:=hW▸Mod.drew (m:=bI);rw[<-hW]at y ⊢;clear hW bI;refine Tk.go [(0,some 139),(1,some 140),(2,some 141),(3,some 142),(4,some 143)] ?_
        repeat (
         refine Tk.gS (v:=?_) rfl (Or.inl ⟨by rfl,?_⟩) y ?_ (fun _ _ _ h=>h);rotate_left 1
         ·(intro u hu;(try dsimp only at hu);go_simp;try with_reducible rfl)
         simp only[Act.put,Zb,Zc,Zd])
        refine Tk.stop (g7 5 (some 144) rfl rfl rfl fun K E=>?_);go_simp
        refine(gF.out _ _ _ fF zbk mW).mono ?_;rintro ex wn ⟨rfl,mn⟩;clear mW;refine E.out (.string (cY nr)) _ Za (fun y=>?_);clear E K;simp only[Act.put,Zb,Zc,Zd];refine(g7 6 (some 145) rfl rfl rfl fun K E=>?_);go_simp
        refine(mi p (mh D5 (rem.take i)) (cY nr) _ w0 _ (Mod.pull (m:=mn) (bv p (mh D5 (rem.take i)))) (sB fF)).mono ?_;rintro ex iY ⟨rr,rfl,iF⟩;clear mn;refine E.out (.int .i64 rr) _ Za (fun y=>?_);clear E K;simp only[Act.put,Zb,Zc,Zd];refine mH ?_;clear y;go_wp2_with fail
        go_roundg (J-(i+1))
        case measure=>omega
        case rel=>exact⟨i+1,aN,rfl,by go_num,by rw[dD.out,Gj];exact Mod.keep iF⟩
       ·have il:i=J:=by omega
        subst il;have df:¬(i:Int)<(i:Int):=by omega
        have dR:rem.take i=rem:=Zn (by rw[dA.out];exact Zm _);rw[dR]at bI;go_wp2_with (go_at_call 74;refine(kL p _ _ w0 _ _ bI zbk).mono ?_;rintro ex iZ ⟨rfl,gm⟩)
        go_end0
        have fq:=HC.out.merged dP M.out.1 hN dE.out (by omega) ek.out bM.out gG.out bz.out.1 bz.out.2.1 bz.out.2.2.1;refine⟨rfl,v.merged tl ls D5 aa ak,aI,A5,c5,fq,v.M8 tl ls D5 aa ak HC.out.toEnCore M.out.1 (bz.out.2.1.size.trans (tx bM.out).1),bz.out.2.2.2,?_⟩;have hT:=M.out.1;rw[hT,<-eG.out]at gm;exact Mod.keep gm
     ·intro j hj w' bZ
      have dL:j<left.length:=by simpa [g6]using hj
      have dI:(g6 left)[j]=(left[j].1,.int .i64 (left[j].2:Int)):=by simp[g6]
      have fe:(g6 left).eraseIdx j=g6 (left.eraseIdx j):=by unfold g6;rw[U64.dq]
      rw[dI,fe]at bZ;rw[dI];have gD:=zbj (F4 dL);have ib:(left.eraseIdx j).length+1=left.length:=by rw[XN dL];omega
      have iL:=zbj ib;have fE:nL<=1000000:=by omega
      clear dS dI fe hj;generalize left[j].1=s at *;generalize left[j].2=n at *;generalize left.eraseIdx j=bG at *;clear dL;go_wp2_with (at_builtin;refine mf (w0:=w0) ?_;intro mw;refine cS (t:=149) rfl (by rfl) (Mod.pull (m:=mw) (ar 29 1 (.slice AL nL cL) nL (pP ls))) (v:=.slice AL nL cL) (n:=nL) (xs:=pP ls) rfl (A:=some ⟨w'.heap.size,0,none⟩) (k:=1) (c:=1) (news:=[.int .u64 (s:Int)]) rfl (r:=ce rfl rfl) (by simp[Value.oneCell']) (by unfold maxLen;omega) (by omega) ?_;clear mw;intro gy gQ iU bH)
      go_roundg bG.length
      case measure=>rw[eT.out];omega
      case rel =>
       refine⟨bG,some (s,.int .i64 (n:Int)),gy,nL+1,gQ,ls++[s],rfl,rfl,by show _=_;rw[Ze,eX.out];rfl,by omega,fun q=>?_,?_⟩
       ·rw[bQ.out q,gD.out q,ZA,ZE]
        constructor
        ·rintro(O | O | O)
         ·exact .inl (.inl O)
         ·exact .inl (.inr O)
         ·exact .inr O
        ·rintro((O | O) | O)
         ·exact .inl O
         ·exact .inr (.inl O)
         ·exact .inr (.inr O)
       ·have e:pP (ls++[s])=pP ls++[.int .u64 (s:Int)]:=by simp[pP]
        rw[e];exact Mod.keep bH
end Go.Proofs.YtdfppjcaelghhaaGreatDoor
