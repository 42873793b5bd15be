/- Plain lemmas and contracts; the conditions are in each. -/
import Derived.Test.YtdfppjcaelghhaaGreatDoorEdBG
import Derived.Test.YtdfppjcaelghhaaGreatDoorMfBG
set_option maxHeartbeats 8000000
set_option maxRecDepth 4000
namespace Go.Proofs.YtdfppjcaelghhaaGreatDoor
open Go Go.Sl
structure dk where
 files:List bi
 al:Nat
 next:Nat
 seq:Nat
def ji:dk:=⟨[],0,0,0⟩
def wz (k:dk)(x:db):Option dk:=(FT k.files x).map fun l=>⟨l,x.al,x.next,x.seq⟩
def xD:dk->List db->Option dk
 | k,[]=>some k
 | k,x::l=>match wz k x with
   | none=>none
   | some y=>xD y l
theorem zq:∀(l:List db)(k:dk)(x:db),xD k (l++[x])=(xD k l).bind fun z=>wz z x
 | [],k,x=>by simp only[List.nil_append,xD,Option.bind_some];cases wz k x <;> rfl
 | y::l,k,x=>by
   rw[List.cons_append];simp only[xD]
   cases wz k y with
   | none=>rfl
   | some z=>exact zq l z x
theorem PU {k:dk}{l:List db}{z:dk}(h:xD k l=some z)(i:Nat):∃B,xD k (l.take i)=some B:=by
 induction l generalizing k i with
 | nil=>exact⟨k,by simp[xD]⟩
 | cons x l y =>
   cases i with
   | zero=>exact⟨k,rfl⟩
   | succ i =>
     simp only[List.take_succ_cons,xD]at h ⊢
     cases hd:wz k x with
     | none=>rw[hd]at h;cases h
     | some E=>rw[hd]at h;exact y h i
def dk.whole (k:dk):db:=⟨k.files,[],k.al,k.next,k.seq⟩
structure oz (k:dk):Prop where
 fine:kh k.files=true
 once:jU k.files=false
 sorted:ei k.files=k.files
 nums:∀f∈k.files,f.num<4294967296
 al:k.al<4294967296
 next:k.next<4294967296
 seq:k.seq<18446744073709551616
theorem Kb:oz ji:=⟨rfl,rfl,by show ei []=[];simp[ei],by simp[ji],by decide,by decide,by decide⟩
theorem q9:∀(y:List Nat){l l':List bi},jg l y=some l'->l'.Sublist l
 | [],l,l',h=>by simp only[jg,zbn]at h;subst h;exact Xf _
 | v::vs,l,l',h=>by
   simp only[jg]at h
   split at h
   ·cases h
   ·exact(q9 vs h).trans (Yy _ _)
theorem kg {l:List bi}{f:bi}:f∈ei l↔f∈l:=(YI l JN).mem_iff
theorem wV (l:List bi):(ei l).length=l.length:=(YI l JN).length_eq
theorem Fj {l y:List bi}(h:l.Perm y):jU l=jU y:=by
 unfold jU
 congr 1
 exact decide_eq_decide.2 (h.map (·.num)).nodup_iff
theorem AN {l:List bi}(h:l.Pairwise fun a b=>JN a b=true):ei l=l:=List.mergeSort_of_pairwise h
theorem o0 (l:List bi):ei (ei l)=ei l:=AN (qI l)
theorem oV (l:List bi):kh l=true↔∀f∈l,oC f=true:=by unfold kh;exact Xx
theorem DP {l z:List bi}{x:db}(h:FT l x=some z):kh l=true/\kh x.added=true/\jU l=false/\∃y,jg l x.removed=some y/\jU (y++x.added)=false/\z=ei (y++x.added):=by
 unfold FT at h
 split at h
 ·cases h
 rename_i h0
 simp only[not_or,Bool.not_eq_false,Bool.not_eq_true]at h0
 split at h
 ·cases h
 rename_i y h1
 split at h
 ·cases h
 rename_i h2
 injection h with h;exact⟨h0.1,h0.2.1,h0.2.2,y,h1,by simpa using h2,h.symm⟩
theorem MS {l y:List bi}{x:db}(h:FT l x=some y):y.length<=l.length+x.added.length:=by
 obtain⟨_,_,_,B,z,_,rfl⟩:=DP h;rw[wV,Ze];have:=(q9 _ z).length_le;omega
structure NP (x:db):Prop where
 nums:∀f∈x.added,f.num<4294967296
 al:x.al<4294967296
 next:x.next<4294967296
 seq:x.seq<18446744073709551616
theorem NZ {k B:dk}{x:db}(U:oz k)(z:NP x)(h:wz k x=some B):oz B/\B.files.length<=k.files.length+x.added.length:=by
 unfold wz at h;obtain⟨l,E,rfl⟩:=Xk.1 h;refine⟨?_,MS E⟩;obtain⟨J,K,_,V,M,O,rfl⟩:=DP E;have I:=q9 _ M;refine⟨?_,?_,o0 _,?_,z.al,z.next,z.seq⟩
 ·rw[oV]at *
  intro f y;rcases ZA.1 (kg.1 y)with y | y
  ·exact J f (I.subset y)
  ·exact K f y
 ·rw[<-O];exact Fj (YI _ _)
 ·intro f y
  rcases ZA.1 (kg.1 y)with y | y
  ·exact U.nums f (I.subset y)
  ·exact z.nums f y
theorem Jh {k:dk}(y:oz k):wz ji k.whole=some k:=by
 have e:FT [] k.whole=some k.files:=by
  have z:¬(kh ([]:List bi)=false\/kh k.whole.added=false\/jU ([]:List bi)=true):=by
   rintro(h | h | h)
   ·cases h
   ·rw[show kh k.whole.added=true from y.fine]at h;cases h
   ·cases h
  have B:jg ([]:List bi) k.whole.removed=some []:=rfl;have E:([]:List bi)++k.whole.added=k.files:=rfl;unfold FT;rw[if_neg z,B];simp only[E,y.once,YH,if_false,y.sorted]
 unfold wz;show (FT [] k.whole).map _=_;rw[e];rfl
theorem Gc {k:dk}(y:oz k):xD ji [k.whole]=some k:=by
 simp only[xD,Jh y]
open Go.RowKit Go.Sl
attribute [local go_sem] ab bj bh bd
def dk.nums (k:dk):Nat×Nat×Nat:=(k.al,k.next,k.seq)
abbrev kJ (A:Option Addr)(c:Nat)(l:List bi):ba:=ar 44 4 (.slice A l.length c) l.length (l.flatMap bi.cells)
theorem kR (A:Option Addr)(c:Nat)(l:List bi):du (kJ A c l) A l.length l:=⟨rfl,fh (by decide)⟩
theorem Na {g len:Nat}{A:Option Addr}{c:Nat}{b:List UInt8}(E:len=b.length)(z:len<=c):jt (aE g (.cells #[.slice A len c] 67 (0,0))*ar 5 1 (.slice A len c) len (b7 b)) (some ⟨g,0,none⟩) 1 [b]:=by
 subst E;refine⟨rfl,[(A,c)],rfl,ct (S:=aE g (.cells #[.slice A b.length c] 67 (0,0))) zbk (ce rfl rfl),fun i y I=>?_⟩;have B:i=0:=by simp at y;omega
 subst B;exact⟨ct (S:=ar 5 1 (.slice A b.length c) b.length (b7 b)) zbk (bk.row 5 A b.length c (b7 b)),z⟩
theorem Er (O p:Nat)(j:Value)(num many:Nat)(A:Option Addr)(c:Nat)(k:dk)(w w0:World)(F:ba)(m:Mod w w0 (gA O p j num many (.slice A k.files.length k.files.length) k.nums*(kJ A c k.files*F)))(K:oz k)(M:k.files.length<=1100000) :
 Calls Tryz.prog 123 #[ap O] w fun e U=>∃g R,e=.returned (.slice (some ⟨g,0,none⟩) 1 1)/\jt R (some ⟨g,0,none⟩) 1 [de k.whole]/\Mod U w0 (R*(gA O p j num many (.slice A k.files.length k.files.length) k.nums*(kJ A c k.files*F))):=by
 obtain⟨I,y⟩:∃I,I=gA O p j num many (.slice A k.files.length k.files.length) k.nums*(kJ A c k.files*F):=⟨_,rfl⟩;have aa:=zbj y;have rk:du I A k.files.length k.files:=(kR A c k.files).lift (by rw[y];infer_instance);have HP:=zbj (fun(u:World)(S:ba)(mu:Mod u w0 S)(s:Sub S I)=>qo ⟨A,k.files.length,none,0⟩ k.whole u w0 S mu ⟨rk.lift s,⟨rfl,qF⟩,K.nums,by simp[dk.whole],M,by simp[dk.whole],K.al,K.next,K.seq,Zm _,Zm _⟩)
 have J:∀S e U,ts k.whole S w0 e U->∃A c,e=.returned (.tuple #[.slice A (de k.whole).length c,.int .i64 0])/\Mod U w0 (ar 5 1 (.slice A (de k.whole).length c) (de k.whole).length (b7 (de k.whole))*S):=fun S e U h=>by
  rcases h with⟨h,_⟩ | ⟨_,h⟩
  ·rw[show kh k.whole.added=true from K.fine]at h;cases h
  ·exact h
 have E:=zbj J;have ae:jq I O (.cells #[ap p,j,.int .u32 (num:Int),.int .i64 (many:Int),.slice A k.files.length k.files.length,.slice none 0 0,.slice none 0 0,.int .u32 (k.al:Int),.int .u32 (k.next:Int),.int .u64 (k.seq:Int),.bool true] 152 (0,0)):=by rw[y];unfold gA dk.nums;infer_instance
 rw[<-y]at m ⊢;clear y rk J;obtain⟨b,hb⟩:∃b,de k.whole=b:=⟨_,rfl⟩;rw[hb]at E ⊢;obtain⟨z,Y⟩:∃z,b.length=z:=⟨_,rfl⟩;have Hz:=zbj Y;rw[Y]at E;clear hb Y;go_enter Tryz.func123,Tryz.ntmps123
 go_wp2_with (go_at_call 121;refine(HP.out _ _ zbk zbk).mono ?_;intro e w1 B;obtain⟨Z,c1,rfl,m1⟩:=E.out _ _ _ B;clear B)
 have V:z<=c1:=rL (m:=m1);go_ret
 refine⟨w1.heap.size,_,rfl,Na (A:=Z) (b:=b) Hz.out.symm V,?_⟩;have m2:Mod (w1.alloc (.cells #[.slice Z z c1] 67)) w0 _:=zbk;exact Mod.drop (A:=aE w.heap.size (.cells #[.slice A k.files.length k.files.length,.slice none 0 0,.int .u32 (k.al:Int),.int .u32 (k.next:Int),.int .u64 (k.seq:Int)] 130 (0,0))) (m:=Mod.to (m:=m2) (by ac_rfl))
theorem Ji {w w0:World}{R:ba}{y t:Nat}{K M O U Z a5 a6 a7 a8 a9 z:Value}(m:Mod w w0 (aE y (.cells #[K,M,O,U,Z,a5,a6,a7,a8,a9,z] t (0,0))*R))(B V Y E I J u5 u6:Value) :
 Mod ((((((((w.setCell ⟨y,4,none⟩ B).setCell ⟨y,5,none⟩ V).setCell ⟨y,6,none⟩ Y).setCell ⟨y,7,none⟩ E).setCell ⟨y,8,none⟩ I).setCell ⟨y,9,none⟩ J).setCell ⟨y,5,none⟩ u5).setCell ⟨y,6,none⟩ u6) w0
  (aE y (.cells #[K,M,O,U,B,u5,u6,E,I,J,z] t (0,0))*R):=by
 have m1:=Mod.setCells (m:=m) (g:=y) (i:=4) B (t:=⟨rfl⟩);have m2:=Mod.setCells (m:=m1) (g:=y) (i:=5) V (t:=⟨rfl⟩);have m3:=Mod.setCells (m:=m2) (g:=y) (i:=6) Y (t:=⟨rfl⟩);have m4:=Mod.setCells (m:=m3) (g:=y) (i:=7) E (t:=⟨rfl⟩);have m5:=Mod.setCells (m:=m4) (g:=y) (i:=8) I (t:=⟨rfl⟩);have m6:=Mod.setCells (m:=m5) (g:=y) (i:=9) J (t:=⟨rfl⟩);have m7:=Mod.setCells (m:=m6) (g:=y) (i:=5) u5 (t:=⟨rfl⟩);exact Mod.setCells (m:=m7) (g:=y) (i:=6) u6 (t:=⟨rfl⟩)
theorem FU {w w0:World}{A B C D F:ba}(m:Mod w w0 (A*(B*(C*(D*F))))):Mod w w0 (C*(A*F)):=Mod.drop (A:=B*D) (m:=Mod.to (m:=m) (by ac_rfl))
def Qn (z p:Nat)(j:Value)(num many:Nat)(A:Option Addr)(c:Nat)(k:dk)(w0:World)(F:ba)(e:Ending)(B:World):Option dk->Prop
 | none=>e=.returned (.int .i64 1)/\Mod B w0 (gA z p j num many (.slice A k.files.length k.files.length) k.nums*(kJ A c k.files*F))
 | some y=>e=.returned (.int .i64 0)/\∃A' c',y.files.length<=c'/\Mod B w0 (gA z p j num many (.slice A' y.files.length y.files.length) y.nums*(kJ A' c' y.files*F))
theorem GB (M p:Nat)(j:Value)(num many:Nat)(A:Option Addr)(c:Nat)(k:dk)(L:xb)(x:db)(w w0:World)(F:ba)(m:Mod w w0 (gA M p j num many (.slice A k.files.length k.files.length) k.nums*(kJ A c k.files*F)))(r:kW F L x)(K:k.files.length<=100000000) :
 Calls Tryz.prog 111 #[ap M,.agg (jW L x)] w fun e w'=>Qn M p j num many A c k w0 F e w' (wz k x):=by
 obtain⟨aA,aC,rA,rC⟩:=L;obtain⟨I,O,jn,nx,U⟩:=x;obtain⟨B,y⟩:∃B,B=gA M p j num many (.slice A k.files.length k.files.length) k.nums*(kJ A c k.files*F):=⟨_,rfl⟩;have rk:du B A k.files.length k.files:=(kR A c k.files).lift (by rw[y];infer_instance);have sF:Sub B F:=by rw[y];infer_instance
 have V:=zbj (fun(u:World)(S:ba)(mu:Mod u w0 S)(s:Sub S B)=>y8 A k.files.length k.files.length k.files aA I.length aC rA O.length rC I O jn nx U u w0 S mu (rk.lift s) K ((r.added.lift sF).lift s) r.JP ((r.removed.lift sF).lift s) r.JQ);show Calls Tryz.prog _ #[_,.agg #[.slice aA I.length aC,.slice rA O.length rC,.int .u32 (jn:Int),.int .u32 (nx:Int),.int .u64 (U:Int)]] _ _;obtain⟨z,hz⟩:∃z,FT k.files ⟨I,O,jn,nx,U⟩=z:=⟨_,rfl⟩;rw[hz]at V;have J:wz k ⟨I,O,jn,nx,U⟩=z.map fun l=>⟨l,jn,nx,U⟩:=by unfold wz;rw[hz]
 rw[J];clear hz J r rk sF;have aa:jq B M (.cells #[ap p,j,.int .u32 (num:Int),.int .i64 (many:Int),.slice A k.files.length k.files.length,.slice none 0 0,.slice none 0 0,.int .u32 (k.al:Int),.int .u32 (k.next:Int),.int .u64 (k.seq:Int),.bool true] 152 (0,0)):=by rw[y];unfold gA dk.nums;infer_instance
 rw[<-y]at m;have E:=zbj y;clear y
 cases z with
 | none =>
   go_enter Tryz.func111,Tryz.ntmps111
   go_wp2_with fail
   go_region_with (go_at_call 122;refine(V.out _ _ zbk zbk).mono ?_;rintro e w1 ⟨rfl,Y⟩)
   all_goals (go_wp2_with fail)
   all_goals go_ret
   all_goals exact⟨rfl,by rw[<-E.out];exact Mod.keep Y⟩
 | some l' =>
   go_enter Tryz.func111,Tryz.ntmps111
   go_wp2_with fail
   go_region_with (go_at_call 122;refine(V.out _ _ zbk zbk).mono ?_;rintro e w1 ⟨A1,c1,rfl,Z,Y⟩)
   all_goals (have m2:=Y;rw[E.out]at m2;unfold gA at m2;clear m aa V Y)
   all_goals (go_wp2_with fail)
   all_goals go_ret
   all_goals exact⟨rfl,A1,c1,Z,Ji (FU m2) _ _ _ _ _ _ _ _⟩
theorem sR (J p:Nat)(j:Value)(num many:Nat)(A:Option Addr)(c:Nat)(k:dk)(w w0:World)(F:ba)(m:Mod w w0 (gA J p j num many (.slice A k.files.length k.files.length) k.nums*(kJ A c k.files*F)))(B:k.files.length<=100000000) :
 Calls Tryz.prog 42 #[ap J] w fun e w'=>∃A' c',e=.returned (.slice A' k.files.length k.files.length)/\k.files.length<=c'/\Mod w' w0 (kJ A' c' k.files*(gA J p j num many (.slice A k.files.length k.files.length) k.nums*(kJ A c k.files*F))):=by
 obtain⟨E,y⟩:∃E,E=gA J p j num many (.slice A k.files.length k.files.length) k.nums*(kJ A c k.files*F):=⟨_,rfl⟩;have rk:du E A k.files.length k.files:=(kR A c k.files).lift (by rw[y];infer_instance);have K:jq E J (.cells #[ap p,j,.int .u32 (num:Int),.int .i64 (many:Int),.slice A k.files.length k.files.length,.slice none 0 0,.slice none 0 0,.int .u32 (k.al:Int),.int .u32 (k.next:Int),.int .u64 (k.seq:Int),.bool true] 152 (0,0)):=by rw[y];unfold gA dk.nums;infer_instance
 rw[<-y]at m ⊢;have U:=zbj (fun(u:World)(mu:Mod u w0 E)=>xo A k.files.length k.files.length k.files u w0 E mu rk B);clear rk y;obtain⟨M,z⟩:∃M,k.files.length=M:=⟨_,rfl⟩;rw[z]at K U ⊢;unfold kJ;rw[z];have aa:=zbj z;clear z B;go_enter Tryz.func42,Tryz.ntmps42
 have I:=True.intro
 go_wp2_with first
  | (go_at_call 91;clear I;refine(U.out _ zbk).mono ?_;rintro e w1 ⟨O,V,rfl,Y⟩)
 obtain⟨q1,q2,Z,q4⟩:=Ct Y;go_wp2_with (go_at_call 90;refine(yT O M V q1 q2 Z q4 _).mono ?_;rintro e w2 ⟨rfl,rfl⟩)
 go_ret
 exact⟨O,V,rfl,Z,Y⟩
end Go.Proofs.YtdfppjcaelghhaaGreatDoor
