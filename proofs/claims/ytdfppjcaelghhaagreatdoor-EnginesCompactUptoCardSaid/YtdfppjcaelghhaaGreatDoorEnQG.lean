/- Plain lemmas and contracts; the conditions are in each. -/
import Derived.Test.YtdfppjcaelghhaaGreatDoorEnO
set_option maxRecDepth 8000
set_option maxHeartbeats 8000000
namespace Go.Proofs.YtdfppjcaelghhaaGreatDoor
open Go.RowKit Go.Sl Go.Shelf
attribute [local go_sem] ab bj bh bd
theorem Nh (a b:ByteArray)(w:World):(binOp .neq 84 (.agg #[.string a,.string b]) (.agg #[.string a,.string b])).run Tryz.prog w=.ok (.bool false) w:=by
 have B:∀w,(part 9 #[.string a,.string b] 0).run Tryz.prog w=.ok (.string a) w:=fun w=>by simp[part,isAgg,run_underlying Tryz.underlying9]
 have E:∀w,(part 9 #[.string a,.string b] 1).run Tryz.prog w=.ok (.string b) w:=fun w=>by simp[part,isAgg,run_underlying Tryz.underlying9]
 rw[run_neq_struct,show (10000:Nat)=9999+1 from rfl,run_equalIn_agg w 9999 84 _ _ kRf kRf];have y:∀w,(Op.equalIn 9999 9 (.string a) (.string a)).run Tryz.prog w=.ok true w:=fun w=>by rw[run_equalIn_string w 9998 9 a a Tryz.underlying9];simp
 have z:∀w,(Op.equalIn 9999 9 (.string b) (.string b)).run Tryz.prog w=.ok true w:=fun w=>by rw[run_equalIn_string w 9998 9 b b Tryz.underlying9];simp
 unfold Program.fieldsOf;rw[Tryz.underlying84];simp[Op.eqFields,B,E,y,z]
attribute [local go_sem 100000] Nh
abbrev l3.cells (q:l3):List Value:=[Value.string q.1,Value.string q.2]
abbrev oR:=jS l3.cells 2
theorem BC (V X:Option Addr)(n c1 c2:Nat)(R:List l3)(w w0:World)(S:ba)(m:Mod w w0 S)(U:oR S V n R)(r2:oR S X n R)(hn:n<=1000000) :
 Calls Tryz.prog 12 #[.slice V n c1,.slice X n c2] w fun en w'=>en=.returned (.bool true)/\Mod w' w0 S:=by
 have z:=zbj U;have B:=zbj r2;have E:=zbj U.len;clear U r2;go_enter Tryz.func12,Tryz.ntmps12
 go_wp2_with fail
 go_loopg [5] n (fun gk v5 wr=>∃i:Nat,i<=n/\gk=n-i/\v5=.int .i64 (i:Int)/\Mod wr w0 S)
 case atStart=>exact⟨0,Zv _,rfl,rfl,m⟩
 case round =>
  obtain⟨i,hi,aa,rfl,M⟩:=hrel;by_cases I:i<n
  ·have J:(i:Int)<(n:Int):=by omega
   have ae:(0:Int)<=(i:Int):=by omega
   have y:i<R.length:=by rw[E.out];exact I
   obtain⟨Y,o1,h1⟩:=z.out.some_ M (by decide) oMg;obtain⟨Z,o2,h2⟩:=B.out.some_ M (by decide) oMg;subst h1 h2;have K:=z.out.at_ (fun _=>rfl) (by decide) y (j:=0) rfl;have k1:=z.out.at_ (fun _=>rfl) (by decide) y (j:=1) rfl;have O:=B.out.at_ (fun _=>rfl) (by decide) y (j:=0) rfl;have q1:=B.out.at_ (fun _=>rfl) (by decide) y (j:=1) rfl;generalize R[i]=q at *;clear y;obtain⟨qk,qv⟩:=q;simp only[Nat.add_zero]at K O;have K:bw S Y (o1+i*2) (.string qk):=K;have k1:bw S Y (o1+i*2+1) (.string qv):=k1;have O:bw S Z (o2+i*2) (.string qk):=O;have q1:bw S Z (o2+i*2+1) (.string qv):=q1;go_wp2_with fail
   go_quiet (fail)
   go_wp2_with fail
   go_roundg (n-(i+1))
   case measure=>omega
   case rel=>exact⟨i+1,I,rfl,by go_num,zbk⟩
  ·have J:¬(i:Int)<(n:Int):=by omega
   go_wp2_with fail
   go_ret
   exact⟨rfl,M⟩
structure oc (v v':eN):Prop where
 seq:v.seq<=v'.seq
 H:v'.H=v.H
 W:∃es,v'.W=v.W++es/\∀x∈es,v.seq<x.seq
 size:v'.D.size=v.D.size
theorem oc.refl (v:eN):oc v v:=⟨Zm _,rfl,⟨[],by simp,fun _ h=>(by cases h)⟩,rfl⟩
theorem oc.trans {a b c:eN}(h:oc a b)(h':oc b c):oc a c:=by
 obtain⟨z,E,J⟩:=h.W;obtain⟨B,I,K⟩:=h'.W;refine⟨Yl h.seq h'.seq,h'.H.trans h.H,⟨z++B,by rw[I,E,Zr],fun x y=>?_⟩,h'.size.trans h.size⟩;rcases ZA.1 y with y | y
 ·exact J x y
 ·exact Nat.lt_of_le_of_lt h.seq (K x y)
theorem oc.wrote {v v':eN}{l:List lc}(h:ND v v' (dp (v.seq+1) l)):oc v v' :=
 ⟨by rw[h.seq];omega,h.H,⟨_,h.W,fun x y=>by rw[(nB y).1];omega⟩,h.size⟩
theorem cv.wide {v:eN}{B z N E y:Nat}(h:cv v B N y)(I:B<=z)(J:N<=E):cv v z E y :=
 have h:=h.mono I (Zm y)
 ⟨⟨h.disk,h.rise,h.cont,Yl h.many J,h.small,h.lv0,h.lv1,h.lv3,h.num,h.next,h.seq,h.zN,h.held,h.qw⟩,h.tf,h.Bq,h.zK,h.tab,h.BH,h.BD,h.vY⟩
theorem DV (e p:Nat)(v:eN)(B N:Nat)(A':Option Addr)(n c':Nat)(l:List lc)(w w0:World)(F:ba)(h:eV e p v w0 F w)(U:cv v B N 4)(hs:v.D.size=8388608)(hN:N+n<=2300)(hB:B+64<=1000000)(M:ia F A' n l)(K:n<=c')(tab:fX F)(E:qf F) :
 Calls Tryz.prog 8 #[ap e,.slice A' n c'] w fun I O=>(∃x y,I=.returned (.tuple #[x,y]))/\∃v',cv v' (B+64) (N+n) 4/\oc v v'/\eV e p v' w0 F O:=by
 by_cases z:n<1\/32<n\/oA l=true
 ·refine(xq e p v A' n c' l w w0 F h M oMg z).mono ?_
  rintro I O ⟨rfl,J⟩;exact⟨⟨_,_,rfl⟩,v,U.wide oMg oMg,oc.refl v,J⟩
 ·have J:1<=n:=by omega
  have V:n<=32:=by omega
  have X:oA l=false:=by
   cases hb:oA l with
   | false=>rfl
   | true=>exact absurd (.inr (.inr hb)) z
  refine(rb e p v B N A' n c' l w w0 F h U (.inl ⟨hs,by omega⟩) hB M J V K X tab E).mono ?_;rintro I O ⟨rfl,v',Y,Z,h6⟩;have hl:(dp (v.seq+1) l).length<=n:=by rw[<-M.len];exact nA _ _
  exact⟨⟨_,_,rfl⟩,v',Y.wide (Zm _) oMg,oc.wrote Z,h6⟩
structure NR (v:eN)(n:Nat):Prop where
 rest:cv v 41 0 4
 T:v.T=[]
 ws:v.ws=[]
 seq:v.seq=0
 sure:v.sure=0
 H:v.H=[]
 W:v.W=[]
 size:v.D.size=n
 xs:n≠8388608->(al [] (cf v.xs)).length<=25000
theorem tX (n:Nat)(hn:n=8388608\/n=400000)(w w0:World)(F:ba)(m:Mod w w0 F)(tab:fX F):Calls Tryz.prog 7 #[.int .i64 (n:Int)] w fun en w'=>∃(p e:Nat)(v:eN),en=.returned (.tuple #[ap p,ap e])/\NR v n/\eV e p v w0 F w':=by
 have z:=zbj (Ob n w w0 F m oMg oMg);have B:=zbj (fun(p:Nat)(u:World)(mu:Mod u w0 (bv p (ew n)*F))=>FY p n 0 u w0 F mu tab (by rcases hn with h | h;exact .inl ⟨h,by omega⟩;exact .inr oMg));clear hn tab m;go_enter Tryz.func7,Tryz.ntmps7
 go_wp2_with (go_at_call 21;refine z.out.mono ?_;rintro ex w1 ⟨p,rfl,Z⟩;refine Hid.out ?_)
 clear z;refine zbj ?_;go_wp2_with (go_at_call 19;refine(B.out p _ Z).mono ?_;rintro ex w2 ⟨e,v,rfl,I,J,K,M,O,U,V,X,y,Y⟩;refine Hid.out ?_)
 have E:=zbj (⟨⟨I,J,K,M,O,U,V,X,y⟩,Y⟩:NR v n/\_);clear I J K M O U V X Y y Z B;refine zbj ?_;go_wp2_with fail
 go_ret2
 exact⟨p,e,v,rfl,E.out.1,E.out.2⟩
end Go.Proofs.YtdfppjcaelghhaaGreatDoor
