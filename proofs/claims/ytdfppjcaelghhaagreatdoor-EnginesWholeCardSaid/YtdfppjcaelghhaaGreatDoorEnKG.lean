/- Plain lemmas and contracts; the conditions are in each. -/
import Derived.Test.YtdfppjcaelghhaaGreatDoorEnJG
import Derived.Test.YtdfppjcaelghhaaGreatDoorMfEG
import Derived.Test.YtdfppjcaelghhaaGreatDoorUmap64
set_option maxHeartbeats 1000000
namespace Go.Proofs.YtdfppjcaelghhaaGreatDoor
open Go.RowKit Go.Sl
section
variable {P:Program}{ops:Array Oper}{Q:Exit->Act->World->Prop}{md:Region.Mode}{S:World->Prop}
theorem Mk (i:Nat)(d:Option Tmp){f:Nat}{y:Array Bool}{a:Act}{w:World}{o:Oper}(M:ops[i]?=some o)(hd:o.dst=d)(J:Region.wanted o (yielded ops a.tmps)=true)
 (h:∀z:Act->World->Prop,Shut (∀v w,S w->(S w->wpAnyH P md ops Q S f (y.setIfInBounds i true) (a.put d v) w)->z (a.put d v) w)->Oper.wp P o a w z Q) (O:Region.ready md ops y=[i]:=by kernel_rfl):wpAnyH P md ops Q S (f+1) y a w:=by
 subst hd;refine wpAnyH_ready O (by simp) (AllReadyH.cons M (fun K B=>?_) AllReadyH.nil);rw[if_pos J];exact h K fun v w E I=>B.out _ w E I
end
open Go.RowKit Go.Sl
attribute [local go_sem] ab bj bh bd
theorem n7 (y p:Nat)(j:Value)(num many:Nat)(z:Value)(k:Nat×Nat×Nat)(w w0:World)(F:ba)(m:Mod w w0 (gA y p j num many z k*F)):Calls Tryz.prog 58 #[ap y] w fun e E=>e=.returned (.int .u32 (k.1:Int))/\Mod E w0 (gA y p j num many z k*F):=by
 have B:=m;unfold gA at B;go_enter Tryz.func58,Tryz.ntmps58
 go_wp2_with fail
 go_ret
 exact⟨rfl,m⟩
theorem Co (y p:Nat)(j:Value)(num many:Nat)(z:Value)(k:Nat×Nat×Nat)(w w0:World)(F:ba)(m:Mod w w0 (gA y p j num many z k*F)):Calls Tryz.prog 56 #[ap y] w fun e E=>e=.returned (.int .u64 (k.2.2:Int))/\Mod E w0 (gA y p j num many z k*F):=by
 have B:=m;unfold gA at B;go_enter Tryz.func56,Tryz.ntmps56
 go_wp2_with fail
 go_ret
 exact⟨rfl,m⟩
def g6 (H:List (Nat×Nat)):U64.eR:=H.map fun q=>(q.1,.int .i64 (q.2:Int))
abbrev N0 (e p B y:Nat)(E:Value)(t:Nat)(I:Value)(z:Nat)(A:Option Addr)(c:Nat)(v:eN)(G:ba):ba :=
 fL B p y v.num v.xs.length A c v.k v.D (al [] (cf v.xs)).length (jT e p (ap B) E (ap t) (.int .u64 (v.seq:Int)) I (.map (some z))*(im t v.T*(U64.gv z (g6 v.H)*G)))
abbrev o6 (e p E y z t B:Nat)(A:Option Addr)(c:Nat)(v:eN)(G:ba):ba :=
 N0 e p E y (ap z) t (.int .u64 (v.sure:Int)) B A c v (dt z p (ez v.k.al) (al [] (v.ws.map fy)).length*G)
theorem cv.mono {v:eN}{B I N J y:Nat}(h:cv v B N J)(z:B<=I)(hn:J<=y):cv v I N y :=
 ⟨⟨h.disk,h.rise,h.cont,h.many,h.small,Yl h.lv0 hn,h.lv1,h.lv3,Yl h.num z,Yl h.next z,Yl h.seq z,h.zN,fun q E=>⟨(h.held q E).1,(h.held q E).2.1,Yl (h.held q E).2.2 z⟩,h.qw⟩,h.tf,h.Bq,h.zK,h.tab,h.BH,h.BD,h.vY⟩
theorem cv.lv {v:eN}{B N E y:Nat}(h:cv v B N E)(z:(eE 0 v.k.files).length<=y):cv v B N y :=
 ⟨⟨h.disk,h.rise,h.cont,h.many,h.small,z,h.lv1,h.lv3,h.num,h.next,h.seq,h.zN,h.held,h.qw⟩,h.tf,h.Bq,h.zK,h.tab,h.BH,h.BD,h.vY⟩
structure CH (tl:Int)(v v':eN):Prop where
 T:v'.T=v.T
 ws:v'.ws=v.ws
 seq:v'.seq=v.seq
 sure:v'.sure=v.sure
 H:v'.H=v.H
 W:v'.W=v.W
 kj:v'.k.al=v.k.al
 zN:v'.k.seq=v.k.seq
 size:v'.D.size=v.D.size
 lv:∀f∈v'.k.files,f.level<=tl->f.level=tl
theorem C3 (y z B E:Value)(w:World):(Instr.index 131 (.agg #[y,z,B,E]) (.int .i64 0)).run Tryz.prog w=.ok y w/\(Instr.index 131 (.agg #[y,z,B,E]) (.int .i64 1)).run Tryz.prog w=.ok z w/\(Instr.index 131 (.agg #[y,z,B,E]) (.int .i64 2)).run Tryz.prog w=.ok B w/\(Instr.index 131 (.agg #[y,z,B,E]) (.int .i64 3)).run Tryz.prog w=.ok E w:=by
 refine⟨?_,?_,?_,?_⟩ <;> simp[Instr.index,run_underlying Tryz.underlying131,asIntOf,Tryz.sizeOf40,part,isAgg,run_underlying Tryz.underlying40]
def NQ (v:Value)(B:ba)(l:List bi):Prop:=∀i:Nat,i<4->∃(y:Option Addr)(z:Nat),(eE (i:Int) l).length<=z/\(∀w,(Instr.index 131 v (.int .i64 (i:Int))).run Tryz.prog w=.ok (.slice y (eE (i:Int) l).length z) w)/\du B y (eE (i:Int) l).length (eE (i:Int) l)
theorem Ej (e M p:Nat)(x0:Value)(x2 x3 x4 x5 x6:Value)(j:Value)(num many:Nat)(A:Option Addr)(c:Nat)(k:dk)(w w0:World)(F:ba)
 (m:Mod w w0 (gA M p j num many (.slice A k.files.length k.files.length) k.nums*(kJ A c k.files*(aE e (.cells #[x0,ap M,x2,x3,x4,x5,x6] 66 (0,0))*F)))) (J:k.files.length<=100000000) (aa:∀f∈k.files,0<=f.level/\f.level<4) :
 Calls Tryz.prog 76 #[ap e] w fun en y=>∃(v:Value)(LV:ba),en=.returned v/\NQ v LV k.files/\Mod y w0 (LV*(gA M p j num many (.slice A k.files.length k.files.length) k.nums*(kJ A c k.files*(aE e (.cells #[x0,ap M,x2,x3,x4,x5,x6] 66 (0,0))*F)))):=by
 refine(Gy e M p x0 x2 x3 x4 x5 x6 j num many A c k w w0 F m J aa).mono ?_;rintro en y ⟨O,V,U,Y,z,E,B,I,rfl,K⟩;refine⟨_,_,rfl,fun i hi=>?_,K⟩;have Z:=fun w=>C3 (.slice O (eE 0 k.files).length V) (.slice U (eE 1 k.files).length Y) (.slice z (eE 2 k.files).length E) (.slice B (eE 3 k.files).length I) w;have m2:Mod y w0 (kJ O V (eE 0 k.files)*_):=Mod.to (m:=K) (by rw[bo]);have m3:Mod y w0 (kJ U Y (eE 1 k.files)*_):=Mod.to (m:=K) (by rw[bo,bo,cC]);have m4:Mod y w0 (kJ z E (eE 2 k.files)*_):=Mod.pull (m:=K) (kJ z E (eE 2 k.files));have m5:Mod y w0 (kJ B I (eE 3 k.files)*_):=Mod.pull (m:=K) (kJ B I (eE 3 k.files));rcases (show i=0\/i=1\/i=2\/i=3 by omega)with rfl | rfl | rfl | rfl
 ·exact⟨O,V,i7 m2,fun w=>(Z w).1,(kR O V _).lift zbk⟩
 ·exact⟨U,Y,i7 m3,fun w=>(Z w).2.1,(kR U Y _).lift zbk⟩
 ·exact⟨z,E,i7 m4,fun w=>(Z w).2.2.1,(kR z E _).lift zbk⟩
 ·exact⟨B,I,i7 m5,fun w=>(Z w).2.2.2,(kR B I _).lift zbk⟩
theorem jb.more {G E:ba}{runs:List cQ}(h:jb G runs){r:cQ}(I:bp E r.A r.l.length r.l)(z:r.l.length<=r.c)(B:r.l.length<=1000000):jb (E*G) (runs++[r]):=fun x y=>by
 rcases ZA.1 y with y | y
 ·exact⟨(h x y).1.lift zbk,(h x y).2⟩
 ·rw[ZE]at y
  subst y;exact⟨I.lift zbk,z,B⟩
end Go.Proofs.YtdfppjcaelghhaaGreatDoor
