/- Plain lemmas and contracts; the conditions are in each. -/
import Derived.Test.YtdfppjcaelghhaaGreatDoorEnO
set_option maxRecDepth 8000
set_option maxHeartbeats 8000000
namespace Go.Proofs.YtdfppjcaelghhaaGreatDoor
open Go.RowKit Go.Sl Go.Shelf
attribute [local go_sem] ab bj bh bd
theorem Nh (a b:ByteArray)(w:World):(binOp .neq 84 (.agg #[.string a,.string b]) (.agg #[.string a,.string b])).run Tryz.prog w=.ok (.bool false) w:=by
 have B:∀w,(part 9 #[.string a,.string b] 0).run Tryz.prog w=.ok (.string a) w:=fun w=>by simp[part,isAgg,run_underlying Tryz.underlying9]
 have E:∀w,(part 9 #[.string a,.string b] 1).run Tryz.prog w=.ok (.string b) w:=fun w=>by simp[part,isAgg,run_underlying Tryz.underlying9]
 rw[run_neq_struct,show (10000:Nat)=9999+1 from rfl,run_equalIn_agg w 9999 84 _ _ kRf kRf];have y:∀w,(Op.equalIn 9999 9 (.string a) (.string a)).run Tryz.prog w=.ok true w:=fun w=>by rw[run_equalIn_string w 9998 9 a a Tryz.underlying9];simp
 have z:∀w,(Op.equalIn 9999 9 (.string b) (.string b)).run Tryz.prog w=.ok true w:=fun w=>by rw[run_equalIn_string w 9998 9 b b Tryz.underlying9];simp
 unfold Program.fieldsOf;rw[Tryz.underlying84];simp[Op.eqFields,B,E,y,z]
attribute [local go_sem 100000] Nh
abbrev fI.cells (q:fI):List Value:=[Value.string q.1,Value.string q.2]
abbrev oR:=jS fI.cells 2
theorem BC (V Y:Option Addr)(n c1 c2:Nat)(R:List fI)(w w0:World)(S:ba)(m:Mod w w0 S)(U:oR S V n R)(r2:oR S Y n R)(hn:n<=1000000) :
 Calls Tryz.prog 12 #[.slice V n c1,.slice Y n c2] w fun en w'=>en=.returned (.bool true)/\Mod w' w0 S:=by
 have z:=zbj U;have B:=zbj r2;have E:=zbj U.len;clear U r2;go_enter Tryz.func12,Tryz.ntmps12
 go_wp2_with fail
 go_loopg [5] n (fun gk v5 wr=>∃i:Nat,i<=n/\gk=n-i/\v5=.int .i64 (i:Int)/\Mod wr w0 S)
 case atStart=>exact⟨0,Zv _,rfl,rfl,m⟩
 case round =>
  obtain⟨i,hi,aa,rfl,M⟩:=hrel;by_cases I:i<n
  ·have J:(i:Int)<(n:Int):=oMg
   have ae:(0:Int)<=(i:Int):=oMg
   have y:i<R.length:=by rw[E.out];exact I
   obtain⟨Z,o1,h1⟩:=z.out.some_ M (by decide) oMg;obtain⟨b2,o2,h2⟩:=B.out.some_ M (by decide) oMg;subst h1 h2;have K:=z.out.at_ (fun _=>rfl) (by decide) y (j:=0) rfl;have k1:=z.out.at_ (fun _=>rfl) (by decide) y (j:=1) rfl;have O:=B.out.at_ (fun _=>rfl) (by decide) y (j:=0) rfl;have q1:=B.out.at_ (fun _=>rfl) (by decide) y (j:=1) rfl;generalize R[i]=q at *;clear y;obtain⟨qk,qv⟩:=q;simp only[Nat.add_zero]at K O;have K:bw S Z (o1+i*2) (.string qk):=K;have k1:bw S Z (o1+i*2+1) (.string qv):=k1;have O:bw S b2 (o2+i*2) (.string qk):=O;have q1:bw S b2 (o2+i*2+1) (.string qv):=q1;go_wp2_with fail
   go_quiet (fail)
   go_wp2_with fail
   go_roundg (n-(i+1))
   case measure=>omega
   case rel=>exact⟨i+1,I,rfl,by go_num,zbk⟩
  ·have J:¬(i:Int)<(n:Int):=oMg
   go_wp2_with fail
   go_ret
   exact⟨rfl,M⟩
theorem cv.wide {v:eN}{B z N E y:Nat}(h:cv v B N y)(I:B<=z)(J:N<=E):cv v z E y :=
 have h:=h.mono I (Zm y)
 ⟨⟨h.disk,h.rise,h.cont,Yl h.many J,h.small,h.lv0,h.lv1,h.lv3,h.num,h.next,h.seq,h.zN,h.held,h.qw⟩,h.tf,h.Bq,h.zK,h.tab,h.BH,h.BD,h.vY⟩
structure NR (v:eN)(n:Nat):Prop where
 rest:cv v 41 0 4
 T:v.T=[]
 ws:v.ws=[]
 seq:v.seq=0
 sure:v.sure=0
 H:v.H=[]
 W:v.W=[]
 size:v.D.size=n
 xs:n≠8388608->(al [] (cf v.xs)).length<=25000
theorem tX (n:Nat)(hn:n=8388608\/n=400000)(w w0:World)(F:ba)(m:Mod w w0 F)(tab:fX F):Calls Tryz.prog 7 #[.int .i64 (n:Int)] w fun en w'=>∃(p e:Nat)(v:eN),en=.returned (.tuple #[ap p,ap e])/\NR v n/\eV e p v w0 F w':=by
 have z:=zbj (Ob n w w0 F m oMg oMg);have B:=zbj (fun(p:Nat)(u:World)(mu:Mod u w0 (bv p (ew n)*F))=>FY p n 0 u w0 F mu tab (by rcases hn with h | h;exact .inl ⟨h,oMg⟩;exact .inr oMg));clear hn tab m;go_enter Tryz.func7,Tryz.ntmps7
 go_wp2_with (go_at_call 21;refine z.out.mono ?_;rintro ex w1 ⟨p,rfl,m1⟩;refine Hid.out ?_)
 clear z;refine zbj ?_;go_wp2_with (go_at_call 19;refine(B.out p _ m1).mono ?_;rintro ex w2 ⟨e,v,rfl,I,J,K,M,O,U,V,Y,y,Z⟩;refine Hid.out ?_)
 have E:=zbj (⟨⟨I,J,K,M,O,U,V,Y,y⟩,Z⟩:NR v n/\_);clear I J K M O U V Y Z y m1 B;refine zbj ?_;go_wp2_with fail
 go_ret2
 exact⟨p,e,v,rfl,E.out.1,E.out.2⟩
end Go.Proofs.YtdfppjcaelghhaaGreatDoor
