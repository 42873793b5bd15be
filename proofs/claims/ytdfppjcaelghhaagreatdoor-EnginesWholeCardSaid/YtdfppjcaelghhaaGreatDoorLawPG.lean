/- Plain lemmas and contracts; the conditions are in each. -/
import Derived.Test.YtdfppjcaelghhaaGreatDoorEnQG
import Derived.Test.YtdfppjcaelghhaaGreatDoorMfFG
set_option maxHeartbeats 16000000
set_option maxRecDepth 8000
namespace Go.Proofs.YtdfppjcaelghhaaGreatDoor
open Go Go.Sl
def kE:List lc:=[⟨⟨#[97]⟩,⟨#[49]⟩,false⟩,⟨⟨#[98]⟩,⟨#[50]⟩,false⟩]
def nv:List lc:=[⟨⟨#[97]⟩,⟨#[]⟩,true⟩]
theorem Cl:dp 1 kE=[⟨⟨#[97]⟩,1,false,⟨#[49]⟩⟩,⟨⟨#[98]⟩,1,false,⟨#[50]⟩⟩]:=by
 simp[dp,kE]
theorem JR:dp 2 nv=[⟨⟨#[97]⟩,2,true,⟨#[]⟩⟩]:=by
 simp[dp,nv]
theorem JS:oA kE=false:=by
 unfold oA kE sw mj;simp only[ByteArray.toList_eq];decide
theorem JT:oA nv=false:=by
 unfold oA nv sw mj;simp only[ByteArray.toList_eq];decide
theorem LW:ip (jd [] (dp 1 kE))<=512:=by
 rw[G7 (kD _ _),Cl];decide
def Bt:List ao:=[⟨⟨#[97]⟩,2,true,⟨#[]⟩⟩,⟨⟨#[97]⟩,1,false,⟨#[49]⟩⟩,⟨⟨#[98]⟩,1,false,⟨#[50]⟩⟩]
theorem LU:fc Bt:=by
 unfold fc Bt kF;have h:([97]:List UInt8)<[98]:=by decide
 simp[ByteArray.toList_eq,h]
theorem Em:qG Bt 2=[(⟨#[98]⟩,⟨#[50]⟩)]:=by
 simp[qG,gE,Bt,kA]
theorem El:qG Bt 1=[(⟨#[97]⟩,⟨#[49]⟩),(⟨#[98]⟩,⟨#[50]⟩)]:=by
 simp[qG,gE,Bt,kA]
theorem vJ {v:eN}{B N U s:Nat}(h:EnCore v B N U)(M:v.W=dp 1 kE++dp 2 nv)(O:s∈v.looks)(y z:ByteArray):jp v s y z=(qG Bt s).filter fun q => !decide (q.1.toList<y.toList) && !decide (z.toList<q.1.toList):=by
 have I:∀x,x∈v.W↔x∈Bt:=fun x=>by
  rw[M,Cl,JR];simp only[Bt,List.cons_append,List.nil_append,Zu,XB,or_false];constructor
  ·rintro(h | h | h)
   ·exact .inr (.inl h)
   ·exact .inr (.inr h)
   ·exact .inl h
  ·rintro(h | h | h)
   ·exact .inr (.inr h)
   ·exact .inl h
   ·exact .inr (.inl h)
 have J:=h.iG O y z;have K:=EW (l:=Bt) (C:=v.W) LU s y z (fun x E=>(I x).2 E) h.cont.one fun x E _ _=>(I x).1 E;exact oZ.same J K fun _ _=>Iff.rfl
theorem LO {v:eN}{B N E:Nat}(h:EnCore v B N E)(y:v.W=dp 1 kE++dp 2 nv)(z:2∈v.looks):Lx (jp v 2 ⟨#[97]⟩ ⟨#[97]⟩)=(⟨#[]⟩,false):=by
 rw[vJ h y z,Em];simp only[ByteArray.toList_eq];decide
theorem LN {v:eN}{B N E:Nat}(h:EnCore v B N E)(y:v.W=dp 1 kE++dp 2 nv)(z:1∈v.looks):Lx (jp v 1 ⟨#[97]⟩ ⟨#[97]⟩)=(⟨#[49]⟩,true):=by
 rw[vJ h y z,El];simp only[ByteArray.toList_eq];decide
theorem JU {v:eN}{B N E:Nat}(h:EnCore v B N E)(y:v.W=dp 1 kE++dp 2 nv)(z:1∈v.looks):((jp v 1 ⟨#[97]⟩ ⟨#[122]⟩).take 9).length=2:=by
 rw[vJ h y z,El];simp only[ByteArray.toList_eq];decide
theorem JV {v:eN}{B N E:Nat}(h:EnCore v B N E)(y:v.W=dp 1 kE++dp 2 nv)(z:2∈v.looks):((jp v 2 ⟨#[97]⟩ ⟨#[122]⟩).take 9).length=1:=by
 rw[vJ h y z,Em];simp only[ByteArray.toList_eq];decide
theorem eV.alloc {e p:Nat}{v:eN}{w0:World}{F:ba}{w:World}(h:eV e p v w0 F w)(cs:Array Value)(t:TypeId):eV e p v w0 (aE w.heap.size (.cells cs t (0,0))*F) (w.alloc (.cells cs t)):=by
 obtain⟨I,y,z,J,E,A,c,B,m⟩:=h;exact⟨I,y,z,J,E,A,c,B,Mod.keep (Mod.alloc (m:=m) (.cells cs t))⟩
theorem eV.drop {e p:Nat}{v:eN}{w0:World}{A F:ba}{w:World}(h:eV e p v w0 (A*F) w):eV e p v w0 F w:=by
 obtain⟨J,y,z,K,I,B,c,E,m⟩:=h;exact⟨J,y,z,K,I,B,c,E,Mod.keep m⟩
theorem eV.mod {e p:Nat}{v:eN}{w0:World}{F:ba}{w:World}(h:eV e p v w0 F w):Mod w w0 F:=by
 obtain⟨I,y,z,J,E,A,c,B,m⟩:=h;exact Mod.sub F (m:=m)
open Go.RowKit Go.Sl Go.Shelf
theorem sr {v:eN}{s:Nat}(h:s=v.seq\/(U64.br v.H s).isSome=true):jB v s=true:=by
 unfold jB;rcases h with h | h
 ·simp[h]
 ·simp[h]
theorem pf {v:eN}{s:Nat}(h:jB v s=true):s∈v.looks:=by
 unfold jB at h;rw[Xh,decide_eq_true_eq]at h;rcases h with rfl | h
 ·exact Zj ..
 ·obtain⟨n,hn⟩:=YQ.1 h
  exact Zh _ (Zz.2 ⟨_,pK hn,rfl⟩)
theorem EnCore.IL {v:eN}{B N M:Nat}(h:EnCore v B N M)(s:Nat)(y z:ByteArray):(jp v s y z).length<=N:=by
 have E:(jp v s y z).length<=(Cv v s y z).length:=Y7 _ _;have I:=Aw (ij (kV v y z v.k.files).flatten) s;have J:=(jk (kV v y z v.k.files).flatten).length_eq;have K:=h.Dl y z;exact Yl E (Yl I (Yl (Nat.le_of_eq J) K))
abbrev zL:ByteArray:=⟨#[255,255]⟩
theorem Nk (e p s:Nat)(v:eN)(B N E:Nat)(R:List fI)(w w0:World)(F:ba)(h:eV e p v w0 F w)(y:cv v B N E)(z:E<=100)(hN:N<=1000)(hB:B<=1000000)(J:jB v s=true)(U:jp v s ⟨#[]⟩ zL=R)(tab:fX F) :
 Calls Tryz.prog 10 #[ap e,.int .u64 (s:Int),.string ⟨#[]⟩,.string zL,.int .i64 1000] w fun O w'=>∃A' c',O=.returned (.slice A' R.length R.length)/\eV e p v w0 (ar 84 2 (.slice A' R.length c') R.length (da R)*F) w':=by
 have Z:s<=v.seq:=by
  rcases Zu.1 (pf J)with rfl | Y
  ·exact Zm _
  ·obtain⟨q,V,rfl⟩:=Zz.1 Y
   exact(y.held q V).1
 have M:=y.seq;have I:=ur e p s v B N E ⟨#[]⟩ zL 1000 w w0 F h y z oMg oMg J (by decide) (by decide) tab;have K:=y.toEnCore.IL s ⟨#[]⟩ zL;rw[Zn oMg,U]at I;exact I
theorem Aj (A':Option Addr)(c:Nat)(R:List fI):oR (ar 84 2 (.slice A' R.length c) R.length (da R)) A' R.length R:=⟨rfl,fh (by decide)⟩
attribute [local go_sem] ab bj bh bd
structure Nz (v:eN)(b n s:Nat)(W:List ao):Prop where
 rest:cv v b n 4
 seq:v.seq=s
 W:v.W=W
 size:v.D.size=400000
abbrev Iw (g:Nat):ba:=aE g (.cells #[.string ⟨#[97]⟩,.string ⟨#[49]⟩,.bool false,.string ⟨#[98]⟩,.string ⟨#[50]⟩,.bool false] 53 (0,0))
abbrev Iy (g:Nat):ba:=aE g (.cells #[.string ⟨#[97]⟩,.string ⟨#[]⟩,.bool true] 53 (0,0))
section
variable (e p:Nat)(w w0:World)(F:ba)(tab:fX F)(deb:qf F)
include tab deb
theorem Gz (g:Nat)(v:eN)(hv:NR v 400000)(h:eV e p v w0 (Iw g*F) w) :
 Calls Tryz.prog 8 #[ap e,.slice (some ⟨g,0,none⟩) 2 2] w fun B M=>B=.returned (.tuple #[.int .u64 1,.int .i64 0])/\∃v',(Nz v' 105 2 1 (dp 1 kE)/\v'.H=[]/\v'.T=jd [] (dp 1 kE)/\(al [] (cf v'.xs)).length<=30000)/\eV e p v' w0 F M:=by
 have K:ip v.T<=512:=by rw[hv.T];decide
 have r:ia (Iw g*F) (some ⟨g,0,none⟩) 2 kE:=jS.lift zbk (⟨rfl,ce rfl rfl⟩:ia (Iw g) (some ⟨g,0,none⟩) 2 kE);have Y:=hv.xs (by decide);have y:BK v 0:=.inr ⟨by rw[hv.size];exact Zm _,oMg,oMg,K⟩;refine(gG e p v 41 0 (some ⟨g,0,none⟩) 2 2 kE w w0 (Iw g*F) h (hv.rest.wide (Zm _) (Zm _)) y (fun U=>absurd (hv.size.symm.trans U) (by decide)) oMg r (by decide) (by decide) (by decide) JS (tab.lift zbk) (deb.lift zbk)).mono ?_;rintro B M ⟨rfl,v',E,z,O⟩;have J:=z.seq;rw[hv.seq]at J E z;have V:=nA (0+1) kE;have I:=z.still K (by rw[hv.T];have:kE.length=2:=rfl;show 0+_<=1024;omega);refine⟨by rw[hv.seq];rfl,v',⟨⟨E.wide oMg (by have:kE.length=2:=rfl;omega),J,by rw[z.W,hv.W];rfl,z.size.trans hv.size⟩,by rw[z.H,hv.H],by rw[I.1,hv.T],by rw[I.2];omega⟩,O.drop⟩
omit tab deb in
theorem LQ (v:eN)(hv:Nz v 105 2 1 (dp 1 kE)/\v.H=[]/\v.T=jd [] (dp 1 kE)/\(al [] (cf v.xs)).length<=30000)(h:eV e p v w0 F w) :
 Calls Tryz.prog 9 #[ap e] w fun z E=>z=.returned (.int .u64 1)/\∃v',(Nz v' 106 2 1 (dp 1 kE)/\U64.br v'.H 1=some 1/\ip v'.T<=512/\(al [] (cf v'.xs)).length<=30000)/\eV e p v' w0 F E:=by
 obtain⟨y,K,M,O⟩:=hv;refine(xp e p v 105 2 4 w w0 F h y.rest oMg).mono ?_;rintro z E ⟨rfl,U,V,B,Y,I,J⟩;rw[y.seq,K]at B;exact⟨by rw[y.seq];rfl,_,⟨⟨I,y.seq,y.W,y.size⟩,B,by show ip v.T<=512;rw[M];exact LW,O⟩,J⟩
theorem GA (g:Nat)(v:eN)(hv:Nz v 106 2 1 (dp 1 kE)/\U64.br v.H 1=some 1/\ip v.T<=512/\(al [] (cf v.xs)).length<=30000)(h:eV e p v w0 (Iy g*F) w) :
 Calls Tryz.prog 8 #[ap e,.slice (some ⟨g,0,none⟩) 1 1] w fun E K=>E=.returned (.tuple #[.int .u64 2,.int .i64 0])/\∃v',(Nz v' 170 3 2 (dp 1 kE++dp 2 nv)/\U64.br v'.H 1=some 1)/\eV e p v' w0 F K:=by
 obtain⟨y,U,Z,Y⟩:=hv;have r:ia (Iy g*F) (some ⟨g,0,none⟩) 1 nv:=jS.lift zbk (⟨rfl,ce rfl rfl⟩:ia (Iy g) (some ⟨g,0,none⟩) 1 nv);have z:BK v 2:=.inr ⟨by rw[y.size];exact Zm _,Y,oMg,Z⟩;refine(gG e p v 106 2 (some ⟨g,0,none⟩) 1 1 nv w w0 (Iy g*F) h y.rest z (fun O=>absurd (y.size.symm.trans O) (by decide)) oMg r (by decide) (by decide) (by decide) JT (tab.lift zbk) (deb.lift zbk)).mono ?_;rintro E K ⟨rfl,v',I,B,M⟩;have J:=B.seq;rw[y.seq]at J I B;have V:=nA (1+1) nv;refine⟨by rw[y.seq];rfl,v',⟨⟨I.wide oMg (by have:nv.length=1:=rfl;omega),J,by rw[B.W,y.W],B.size.trans y.size⟩,by rw[B.H];exact U⟩,M.drop⟩
omit deb
section
variable (v:eN)(hv:Nz v 170 3 2 (dp 1 kE++dp 2 nv)/\U64.br v.H 1=some 1)(h:eV e p v w0 F w)
include hv h
theorem LM:Calls Tryz.prog 20 #[ap e,.int .u64 2,.string ⟨#[97]⟩] w fun B E=>B=.returned (.tuple #[.string ⟨#[]⟩,.bool false])/\eV e p v w0 F E:=by
 have z:jB v 2=true:=sr (.inl hv.1.seq.symm);have y:=B3 e p 2 v 170 3 4 ⟨#[97]⟩ w w0 F h hv.1.rest oMg oMg (by decide) z tab;rw[LO hv.1.rest.toEnCore hv.1.W (pf z)]at y;exact y
theorem LL:Calls Tryz.prog 20 #[ap e,.int .u64 1,.string ⟨#[97]⟩] w fun B E=>B=.returned (.tuple #[.string ⟨#[49]⟩,.bool true])/\eV e p v w0 F E:=by
 have z:jB v 1=true:=sr (.inr (by rw[hv.2];rfl));have y:=B3 e p 1 v 170 3 4 ⟨#[97]⟩ w w0 F h hv.1.rest oMg oMg (by decide) z tab;rw[LN hv.1.rest.toEnCore hv.1.W (pf z)]at y;exact y
theorem LJ:Calls Tryz.prog 10 #[ap e,.int .u64 1,.string ⟨#[97]⟩,.string ⟨#[122]⟩,.int .i64 9] w fun y I=>(∃B,y=.returned (.slice B 2 2))/\eV e p v w0 F I:=by
 have E:jB v 1=true:=sr (.inr (by rw[hv.2];rfl));have z:=ur e p 1 v 170 3 4 ⟨#[97]⟩ ⟨#[122]⟩ 9 w w0 F h hv.1.rest oMg oMg (by decide) E (by decide) (by decide) tab;rw[JU hv.1.rest.toEnCore hv.1.W (pf E)]at z;refine z.mono ?_;rintro y I ⟨A',c',rfl,J⟩;exact⟨⟨_,rfl⟩,J.drop⟩
theorem LK:Calls Tryz.prog 10 #[ap e,.int .u64 2,.string ⟨#[97]⟩,.string ⟨#[122]⟩,.int .i64 9] w fun y I=>(∃B,y=.returned (.slice B 1 1))/\eV e p v w0 F I:=by
 have E:jB v 2=true:=sr (.inl hv.1.seq.symm);have z:=ur e p 2 v 170 3 4 ⟨#[97]⟩ ⟨#[122]⟩ 9 w w0 F h hv.1.rest oMg oMg (by decide) E (by decide) (by decide) tab;rw[JV hv.1.rest.toEnCore hv.1.W (pf E)]at z;refine z.mono ?_;rintro y I ⟨A',c',rfl,J⟩;exact⟨⟨_,rfl⟩,J.drop⟩
omit tab
theorem MZ:Calls Tryz.prog 13 #[ap e,.int .u64 1] w fun y z=>y=.returned (.int .i64 0)/\∃v',(Nz v' 170 3 2 (dp 1 kE++dp 2 nv)/\U64.br v'.H 1=none)/\eV e p v' w0 F z:=by
 refine(zb e p 1 v 170 3 4 w w0 F h hv.1.rest 0 hv.2 oMg).mono ?_;rintro y z ⟨rfl,J,B,E,I⟩;exact⟨rfl,_,⟨⟨E,hv.1.seq,hv.1.W,hv.1.size⟩,by rw[B];rfl⟩,I⟩
end
section
variable (v:eN)(hv:Nz v 170 3 2 (dp 1 kE++dp 2 nv)/\U64.br v.H 1=none)(h:eV e p v w0 F w)
include hv h
omit tab
theorem LP:Calls Tryz.prog 20 #[ap e,.int .u64 1,.string ⟨#[97]⟩] w fun y z=>y=.returned (.tuple #[.string ⟨#[]⟩,.bool false])/\eV e p v w0 F z :=
 Lo e p 1 v 170 3 4 ⟨#[97]⟩ w w0 F h hv.1.rest (by unfold jB;rw[hv.1.seq,hv.2];rfl)
omit hv in
theorem LS:Calls Tryz.prog 8 #[ap e,.slice none 0 0] w fun y z=>y=.returned (.tuple #[.int .u64 0,.int .i64 1])/\eV e p v w0 F z :=
 xq e p v none 0 0 [] w w0 F h ⟨rfl,bk.jE _⟩ oMg (.inl oMg)
theorem LY:Calls Tryz.prog 17 #[ap e] w fun y B=>y=.returned (.int .i64 0)/\∃v',(v'.sure=2/\U64.br v'.H 1=none)/\eV e p v' w0 F B:=by
 refine(DU e p v 170 3 4 w w0 F h hv.1.rest).mono ?_;rintro y B ⟨rfl,v',I,z,E⟩;exact⟨rfl,v',⟨by rw[z.sure,hv.1.seq],by rw[z.H];exact hv.2⟩,E⟩
end
end
theorem DW (w w0:World)(S:ba)(m:Mod w w0 S)(A':Option Addr)(n c:Nat):Calls Tryz.prog 8 #[.pointer none,.slice A' n c] w fun y B=>y=.returned (.tuple #[.int .u64 0,.int .i64 2])/\Mod B w0 S:=by
 go_enter Tryz.func8,Tryz.ntmps8
 go_wp2_with (go_at_call 22;refine(KO _ w0 _ (zbk:Mod _ w0 _)).mono ?_;rintro ex w1 ⟨rfl,z⟩)
 go_ret2
 exact⟨rfl,Mod.sub S (m:=z)⟩
open Go.RowKit Go.Sl Go.Shelf
theorem EV {e p:Nat}{v:eN}{w w0:World}{G:ba}{y z:Option Addr}{n:Nat}{R:List fI}(h:eV e p v w0 G w)(r1:oR G y n R)(r2:oR G z n R)(hn:n<=1000000)(I J:Nat):Calls Tryz.prog 12 #[.slice y n I,.slice z n J] w fun K M=>K=.returned (.bool true)/\eV e p v w0 G M:=by
 obtain⟨mp,E,U,t,Y,B,O,V,m⟩:=h;refine(BC y z n I J R w w0 _ m (r1.lift zbk) (r2.lift zbk) hn).mono ?_;rintro K M ⟨rfl,Z⟩;exact⟨rfl,mp,E,U,t,Y,B,O,V,Z⟩
open Go.RowKit Go.Sl Go.Shelf
attribute [local go_sem] ab bj bh bd
theorem M0 (e p:Nat)(v:eN)(w w0:World)(F:ba)(h:eV e p v w0 F w)(A':Option Addr)(n c:Nat):Calls Tryz.prog 8 #[.pointer none,.slice A' n c] w fun z E=>z=.returned (.tuple #[.int .u64 0,.int .i64 2])/\eV e p v w0 F E:=by
 obtain⟨U,y,J,t,M,B,I,K,m⟩:=h;refine(DW w w0 _ m A' n c).mono ?_;rintro z E ⟨rfl,O⟩;exact⟨rfl,U,y,J,t,M,B,I,K,O⟩
theorem LR (e p:Nat)(v:eN)(w w0:World)(F:ba)(hv:v.sure=2/\U64.br v.H 1=none)(h:eV e p v w0 F w):Calls Tryz.prog 13 #[ap e,.int .u64 1] w fun y z=>y=.returned (.int .i64 7)/\eV e p v w0 F z:=za e p 1 v w w0 F h hv.2
theorem LX (e p:Nat)(v:eN)(w w0:World)(F:ba)(hv:v.sure=2/\U64.br v.H 1=none)(h:eV e p v w0 F w):Calls Tryz.prog 15 #[ap e] w fun z B=>z=.returned (.int .u64 2)/\eV e p v w0 F B:=by
 have y:=DT e p v w w0 F h;rw[hv.1]at y;exact y
theorem vK (w w0:World)(F:ba)(m:Mod w w0 F)(tab:fX F)(deb:qf F):Calls Tryz.prog 6 #[] w fun M Y=>M=.returned (.bool true)/\Mod Y w0 F:=by
 have J:=zbj (tX 400000 (.inr rfl) w w0 F m tab);have T:=zbj tab;have D:=zbj deb;clear tab deb m;go_enter Tryz.func6,Tryz.ntmps6
 go_wp2_with (go_at_call 7;refine J.out.mono ?_;rintro ex w1 ⟨p,e,O,rfl,z,y⟩;refine Hid.out ?_)
 have H:=zbj (⟨z,y⟩:_/\_);clear z y J;refine zbj ?_;go_wp2_with (go_at_call 8;refine(Gz e p _ w0 F T.out D.out w1.heap.size O H.out.1 (H.out.2.alloc _ _)).mono ?_;rintro ex w2 ⟨rfl,U,z,y⟩;refine Hid.out ?_)
 clear H;have H:=zbj (⟨z,y⟩:_/\_);clear z y;refine zbj ?_;go_wp2_with (go_at_call 9;refine(LQ e p _ w0 F U H.out.1 H.out.2).mono ?_;rintro ex w3 ⟨rfl,V,z,y⟩;refine Hid.out ?_)
 clear H;have H:=zbj (⟨z,y⟩:_/\_);clear z y;refine zbj ?_;go_wp2_with (go_at_call 8;refine(GA e p _ w0 F T.out D.out w3.heap.size V H.out.1 (H.out.2.alloc _ _)).mono ?_;rintro ex w4 ⟨rfl,E,z,y⟩;refine Hid.out ?_)
 clear H;have B:=zbj z;have H:=zbj y;clear z y;refine zbj ?_;go_wp2_with (go_at_call 20;refine(LM e p _ w0 F T.out E B.out H.out).mono ?_;rintro ex w5 ⟨rfl,y⟩;refine Hid.out ?_)
 clear H;have H:=zbj y;clear y;refine zbj ?_;go_wp2_with (go_at_call 20;refine(LL e p _ w0 F T.out E B.out H.out).mono ?_;rintro ex w6 ⟨rfl,y⟩;refine Hid.out ?_)
 clear H;have H:=zbj y;clear y;refine zbj ?_;go_wp2_with (go_at_call 10;refine(LJ e p _ w0 F T.out E B.out H.out).mono ?_;rintro ex w7 ⟨⟨B1,rfl⟩,y⟩;refine Hid.out ?_)
 clear H;have H:=zbj y;clear y;refine zbj ?_;go_wp2_with (go_at_call 10;refine(LK e p _ w0 F T.out E B.out H.out).mono ?_;rintro ex w8 ⟨⟨B2,rfl⟩,y⟩;refine Hid.out ?_)
 clear H;have H:=zbj y;clear y;refine zbj ?_;go_wp2_with (go_at_call 13;refine(MZ e p _ w0 F E B.out H.out).mono ?_;rintro ex w9 ⟨rfl,I,z,y⟩;refine Hid.out ?_)
 clear H B;have B:=zbj z;have H:=zbj y;clear z y;refine zbj ?_;go_wp2_with (go_at_call 20;refine(LP e p _ w0 F I B.out H.out).mono ?_;rintro ex Z ⟨rfl,y⟩;refine Hid.out ?_)
 clear H;have H:=zbj y;clear y;refine zbj ?_;go_wp2_with (go_at_call 8;refine(LS e p _ w0 F I H.out).mono ?_;rintro ex aa ⟨rfl,y⟩;refine Hid.out ?_)
 clear H;have H:=zbj y;clear y;refine zbj ?_;go_wp2_with (go_at_call 8;refine(M0 e p I _ w0 F H.out none 0 0).mono ?_;rintro ex ae ⟨rfl,y⟩;refine Hid.out ?_)
 clear H;have H:=zbj y;clear y;refine zbj ?_;go_wp2_with (go_at_call 17;refine(LY e p _ w0 F I B.out H.out).mono ?_;rintro ex af ⟨rfl,K,z,y⟩;refine Hid.out ?_)
 clear H B;have B:=zbj z;have H:=zbj y;clear z y;refine zbj ?_;go_wp2_with (go_at_call 15;refine(LX e p K _ w0 F B.out H.out).mono ?_;rintro ex ag ⟨rfl,y⟩;refine Hid.out ?_)
 clear H;have H:=zbj y;clear y;refine zbj ?_;go_wp2_with (go_at_call 13;refine(LR e p K _ w0 F B.out H.out).mono ?_;rintro ex ah ⟨rfl,y⟩)
 go_ret
 exact⟨rfl,y.mod⟩
end Go.Proofs.YtdfppjcaelghhaaGreatDoor
