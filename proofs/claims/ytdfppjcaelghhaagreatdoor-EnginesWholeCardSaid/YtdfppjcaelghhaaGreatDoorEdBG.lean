/- Plain lemmas and contracts; the conditions are in each. -/
import Derived.ArgAppend
import Derived.Lib.SliceRun
import Derived.Shelf.SlSortCmp.NoneTotal
import Derived.Shelf.SlSortCmp.WholeK
import Derived.Sort.Grow
import Derived.Test.YtdfppjcaelghhaaGreatDoorEdAG
import Derived.Test.YtdfppjcaelghhaaGreatDoorSortL
set_option maxHeartbeats 8000000
set_option maxRecDepth 100000
namespace Go.Sl
open Go
def uj (a b:Int):Int:=if a<b then -1 else if b<a then 1 else 0
def yU (f g:bi):Int:=if uj f.level g.level≠0 then uj f.level g.level else uj f.num g.num
end Go.Sl
namespace Go.Proofs.YtdfppjcaelghhaaGreatDoor
open Go.RowKit Go.Sl Go.Sort
attribute [local go_sem] ab bh
theorem DH (a b:Int)(w:World):Calls Tryz.prog 190 #[.int .i64 a,.int .i64 b] w fun e B=>e=.returned (.int .i64 (uj a b))/\B=w:=by
 have N:=fun(a:Int)(u:World)=>(show Calls Tryz.prog 245 #[.int .i64 a] u fun e B=>e=.returned (.bool false)/\B=u by
  go_enter Tryz.func245,Tryz.ntmps245
  go_wp2_with fail
  go_ret
  exact⟨rfl,rfl⟩)
 obtain⟨z,y⟩:∃z,uj a b=z:=⟨_,rfl⟩;rw[y];unfold uj at y;by_cases E:a<b
 ·rw[if_pos E]at y
  subst y;go_enter Tryz.func190,Tryz.ntmps190
  go_wp2_with (go_at_call 245;refine(N _ _).mono ?_;rintro e w1 ⟨rfl,rfl⟩)
  go_ret
  exact⟨rfl,rfl⟩
 ·rw[if_neg E]at y
  by_cases I:b<a
  ·rw[if_pos I]at y
   subst y;go_enter Tryz.func190,Tryz.ntmps190
   go_wp2_with (go_at_call 245;refine(N _ _).mono ?_;rintro e w1 ⟨rfl,rfl⟩)
   go_ret
   exact⟨rfl,rfl⟩
  ·rw[if_neg I]at y
   subst y;go_enter Tryz.func190,Tryz.ntmps190
   go_wp2_with (go_at_call 245;refine(N _ _).mono ?_;rintro e w1 ⟨rfl,rfl⟩)
   go_ret
   exact⟨rfl,rfl⟩
theorem DI (a b:Int)(w:World):Calls Tryz.prog 191 #[.int .u32 a,.int .u32 b] w fun e B=>e=.returned (.int .i64 (uj a b))/\B=w:=by
 have N:=fun(a:Int)(u:World)=>(show Calls Tryz.prog 246 #[.int .u32 a] u fun e B=>e=.returned (.bool false)/\B=u by
  go_enter Tryz.func246,Tryz.ntmps246
  go_wp2_with fail
  go_ret
  exact⟨rfl,rfl⟩)
 obtain⟨z,y⟩:∃z,uj a b=z:=⟨_,rfl⟩;rw[y];unfold uj at y;by_cases E:a<b
 ·rw[if_pos E]at y
  subst y;go_enter Tryz.func191,Tryz.ntmps191
  go_wp2_with (go_at_call 246;refine(N _ _).mono ?_;rintro e w1 ⟨rfl,rfl⟩)
  go_ret
  exact⟨rfl,rfl⟩
 ·rw[if_neg E]at y
  by_cases I:b<a
  ·rw[if_pos I]at y
   subst y;go_enter Tryz.func191,Tryz.ntmps191
   go_wp2_with (go_at_call 246;refine(N _ _).mono ?_;rintro e w1 ⟨rfl,rfl⟩)
   go_ret
   exact⟨rfl,rfl⟩
  ·rw[if_neg I]at y
   subst y;go_enter Tryz.func191,Tryz.ntmps191
   go_wp2_with (go_at_call 246;refine(N _ _).mono ?_;rintro e w1 ⟨rfl,rfl⟩)
   go_ret
   exact⟨rfl,rfl⟩
theorem FM (b:Nat)(x y:Int)(w:World)(Z:w.cell? ⟨b,0,none⟩=some (.int .i64 x))(h1:w.cell? ⟨b,1,none⟩=some (.int .i64 y)) :
 Calls Tryz.prog 189 #[.slice (some ⟨b,0,none⟩) 2 2] w fun e Y=>e=.returned (.int .i64 (if x≠0 then x else y))/\Y=w:=by
 obtain⟨z,J⟩:∃z,(if x≠0 then x else y)=z:=⟨_,rfl⟩;rw[J];have I:=zbj J;clear J;go_enter Tryz.func189,Tryz.ntmps189
 go_wp2_with fail
 go_loopg [8] 2 (fun gk M wr=>wr=w/\((gk=2/\M=.int .i64 0)\/(gk=1/\M=.int .i64 1/\Hid (x=0))\/(gk=0/\M=.int .i64 2/\Hid (x=0)/\Hid (y=0))))
 case atStart=>exact⟨rfl,.inl ⟨rfl,rfl⟩⟩
 case round =>
  obtain⟨rfl,⟨rfl,rfl⟩ | ⟨rfl,rfl,E⟩ | ⟨rfl,rfl,E,U⟩⟩:=hrel
  ·by_cases O:x=0
   ·subst O
    go_wp2_with fail
    go_roundg 1
    case measure=>omega
    case rel=>exact⟨rfl,.inr (.inl ⟨rfl,rfl,by first | exact zbj trivial | exact zbj rfl⟩)⟩
   ·have K:Hid (z=x):=by show _=_;rw[<-I.out,if_pos O]
    go_wp2_with fail
    (try rw[Exit.noGoto_ret])
    go_ret
    exact⟨by rw[K.out];rfl,rfl⟩
  ·have B:Hid (z=y):=by show _=_;rw[<-I.out,if_neg (by rw[E.out];simp)]
   by_cases V:y=0
   ·subst V
    go_wp2_with fail
    go_roundg 0
    case measure=>omega
    case rel=>exact⟨rfl,.inr (.inr ⟨rfl,rfl,E,by first | exact zbj trivial | exact zbj rfl⟩)⟩
   ·go_wp2_with fail
    (try rw[Exit.noGoto_ret])
    go_ret
    exact⟨by rw[B.out];rfl,rfl⟩
  ·have B:Hid (z=0):=by show _=_;rw[<-I.out,if_neg (by rw[E.out];simp),U.out]
   go_wp2_with fail
   go_ret
   exact⟨by rw[B.out];rfl,rfl⟩
theorem Jk (f g:bi)(w:World) :
 Calls Tryz.prog 188 #[.agg #[.int .u32 (f.num:Int),.int .i64 f.level,.string f.least,.string f.most],.agg #[.int .u32 (g.num:Int),.int .i64 g.level,.string g.least,.string g.most]] w fun e I=>e=.returned (.int .i64 (yU f g))/\∃q os,I=grow (w.drewN q) os:=by
 have V:=DH f.level g.level;have Y:=DI f.num g.num;have Z:Hid (yU f g=if uj f.level g.level≠0 then uj f.level g.level else uj f.num g.num):=rfl;generalize uj f.level g.level=a at *;generalize uj f.num g.num=b at *;generalize yU f g=z at *;have H4:Hid (∀(k:Nat)(u:World)(_:u.cell? ⟨k,0,none⟩=some (.int .i64 a))(_:u.cell? ⟨k,1,none⟩=some (.int .i64 b)),Calls Tryz.prog 189 #[.slice (some ⟨k,0,none⟩) 2 2] u fun e I=>e=.returned (.int .i64 z)/\I=u):=fun k u h0 h1=>by rw[Z.out];exact FM k a b u h0 h1
 have mS:Mod ((w.alloc (.cells #[.int .u32 (f.num:Int),.int .i64 f.level,.string f.least,.string f.most] 44)).alloc (.cells #[.int .u32 (g.num:Int),.int .i64 g.level,.string g.least,.string g.most] 44)) w _:=Mod.alloc (m:=Mod.alloc (m:=Mod.start w) _) _
 have M:∀(q:Nat)(o:Obj),(((w.alloc (.cells #[.int .u32 (f.num:Int),.int .i64 f.level,.string f.least,.string f.most] 44)).alloc (.cells #[.int .u32 (g.num:Int),.int .i64 g.level,.string g.least,.string g.most] 44)).drewN q).alloc o=grow (w.drewN q) #[.cells #[.int .u32 (f.num:Int),.int .i64 f.level,.string f.least,.string f.most] 44,.cells #[.int .u32 (g.num:Int),.int .i64 g.level,.string g.least,.string g.most] 44,o]:=fun q o=>by
  show (((w.drewN q).alloc _).alloc _).alloc o=_;rw[alloc_eq_grow,alloc_eq_grow,alloc_eq_grow,grow_grow,grow_grow];rfl
 have HW:=zbj M;clear M;obtain⟨B,E⟩:∃B,w.heap.size=B:=⟨_,rfl⟩;rw[E]at mS;go_enter Tryz.func188,Tryz.ntmps188
 go_wp2_with fail
 have y:((w.alloc (.cells #[.int .u32 (f.num:Int),.int .i64 f.level,.string f.least,.string f.most] 44)).alloc (.cells #[.int .u32 (g.num:Int),.int .i64 g.level,.string g.least,.string g.most] 44)).heap.size=B+1+1:=by simp[E]
 generalize ((w.alloc (.cells #[.int .u32 (f.num:Int),.int .i64 f.level,.string f.least,.string f.most] 44)).alloc (.cells #[.int .u32 (g.num:Int),.int .i64 g.level,.string g.least,.string g.most] 44))=u at *;refine j6 (C:=fun I=>∃q:Nat,I=u.drewN q) 10 kRf kRf ⟨1,rfl⟩ ?_;simp only[List.take_succ_cons,List.take_zero,ZY,Z6]
 repeat (go_big_quiet_step (first
  | (go_at_call 190;refine(V _).mono ?_;rintro e w1 ⟨rfl,rfl⟩;exact⟨rfl,_,rfl⟩)
  | (go_at_call 191;refine(Y _).mono ?_;rintro e w1 ⟨rfl,rfl⟩;exact⟨rfl,_,rfl⟩)))
 refine wpQuiet_nil ?_;rintro w3 ⟨q,rfl⟩;have hn:lY (u.drewN q) (B+1+1):=⟨y⟩;have m9:Mod ((u.drewN q).alloc (.cells #[.int .i64 a,.int .i64 b] 3)) w _:=Mod.alloc (hn:=hn) _;have J:=zbj y;clear y hn;have O:((u.drewN q).alloc (.cells #[.int .i64 a,.int .i64 b] 3)).cell? ⟨B+1+1,0,none⟩=some (.int .i64 a):=Za;have U:((u.drewN q).alloc (.cells #[.int .i64 a,.int .i64 b] 3)).cell? ⟨B+1+1,1,none⟩=some (.int .i64 b):=Za;have K:=zbj (H4.out _ _ O U);clear O U;go_wp2_with fail
 have K:=K.out;rw[<-J.out]at K;refine K.mono ?_;rintro e w1 ⟨rfl,rfl⟩;go_wp2_with fail
 go_ret
 exact⟨rfl,q,_,HW.out q _⟩
end Go.Proofs.YtdfppjcaelghhaaGreatDoor
namespace Go.Sl
open Go Go.Sort Go.Lib Go.Shelf Go.Proofs Go.RowKit
instance:Inhabited bi:=⟨⟨0,0,ByteArray.empty,ByteArray.empty⟩⟩
theorem O0 (x y:bi):ltOf yU x y=decide (x.level<y.level\/x.level=y.level/\x.num<y.num):=by
 show decide (yU x y<0)=_
 congr 1
 apply propext;unfold yU uj;by_cases z:x.level<y.level
 ·simp[z]
 ·by_cases I:y.level<x.level
  ·simp[z,I];omega
  ·have B:x.level=y.level:=oMg
   by_cases E:x.num<y.num
   ·simp[B,E]
   ·by_cases J:y.num<x.num <;> simp[B,E,J]
theorem Pf:SWO (ltOf yU) where
 irrefl x:=by rw[O0];simp
 trans x y z h1 h2:=by rw[O0]at *;simp at *;omega
 ntrans x y z h1 h2:=by rw[O0]at *;simp at *;omega
theorem LC {w w0:World}{S:ba}(m:Mod w w0 S)(os:Array Obj):Mod (grow w os) w0 S :=
 Mod.below (m:=m) ⟨rfl,rfl,rfl,by simp[grow],fun k y=>by simp[grow,XL y]⟩
end Go.Sl
namespace Go.Proofs.YtdfppjcaelghhaaGreatDoor
open Go.RowKit Go.Sl Go.Sort Go.Shelf Go.Lib
theorem xC (l:List bi):(flatK bi.cells 4 l.toArray).toList=l.flatMap bi.cells:=by
 have E:(l.flatMap bi.cells).length=l.length*4:=by
  induction l with
  | nil=>rfl
  | cons x l K=>rw[Zp,Ze,K];simp[bi.cells];omega
 apply Yu;intro t;by_cases ht:t<l.length*4
 ·have z:t / 4<l.length:=oMg
  have y:=get_flatK bi.cells 4 l.toArray t (by simpa using ht);have I:t<(flatK bi.cells 4 l.toArray).size:=by simpa using ht
  rw[getElem!_pos _ t I]at y;rw[ZG,Yk I,y];have J:l.toArray[t / 4]! = l[t / 4]:=by rw[getElem!_pos _ _ (by simpa using z)];simp
  rw[J];have B:t%4<l[t / 4].cells.length:=by show _<4;omega
  rw[getElem!_pos l[t / 4].cells (t%4) B];have:=wF l (t / 4) (t%4) _ z (Zg B);rw[show t / 4*4+t%4=t by omega]at this;exact this.symm
 ·rw[YE (by simp;omega),YE oMg]
def yy (l:List bi):Prop:=l.Pairwise fun a b=>ltOf yU b a=false
theorem GT {w w0:World}{g:Nat}{cs:Array Value}{ty:TypeId}{F:ba}(m:Mod w w0 (aE g (.cells cs ty (0,0))*F))(d:Array Value):Mod (putRow id w g 0 d) w0 (aE g (.cells (putCells id 0 d cs) ty (0,0))*F):=by
 have z:w.heap[g]?=some (.cells cs ty (0,0)):=Mod.heap (m:=m);have B:eM (aE g (.cells cs ty (0,0))*F) (aE g) (.cells cs ty (0,0)) F:=⟨rfl⟩;refine Mod.turn (w:=w) (m:=m) (t:=B) (g:=g) (u:=Obj.cells cs ty (0,0)) (pred:=aE g) rfl rfl rfl (fun k y=>?_) (fun h z=>by rw[z];exact⟨fun k y=>by simp[Hp.one,y],by simp[Hp.one]⟩) (fun h _ _=>?_)
 ·simp[putRow,Sort.mapBlock,Yo,Ne.symm y]
 ·show _=_
  funext k
  by_cases y:k=g
  ·subst y;simp[Hp.one,putRow,Sort.mapBlock,Yo,z,onCells]
  ·simp[Hp.one,y]
theorem Bx (d cs:Array Value)(h:d.size<=cs.size):(putCells id 0 d cs).toList.take d.size=d.toList/\(putCells id 0 d cs).size=cs.size:=by
 refine⟨?_,by simp[putCells]⟩;apply Yu;intro t;by_cases ht:t<d.size
 ·rw[Yi ht]
  have y:t<cs.size:=oMg
  simp[putCells,ht,y]
 ·rw[YE (by simp;omega),YE (by simp;omega)]
theorem K9 (w:World):(isAgg 44).run Tryz.prog w=.ok true w:=kRf
theorem Nq (w:World):(Go.sizeOf 44).run Tryz.prog w=.ok 4 w:=kRf
theorem Li (g off size:Nat)(w:World):CmpLays Tryz.prog 188 #[] bi.cells 4 yU g off size w:=fun _ _ _ _ x y=>Jk x y _
theorem Hh (g c:Nat)(l:List bi)(cs:Array Value)(hl:l.length*4<=cs.size)(M:cs.toList.take (l.length*4)=l.flatMap bi.cells)(hn:l.length<=1000000000)(w w0:World)(F:ba)(m:Mod w w0 (aE g (.cells cs 44 (0,0))*F)) :
 Calls Tryz.prog 187 #[.slice (some ⟨g,0,none⟩) l.length c,.func (.func 188) #[] #[]] w fun e w'=>e=.returned (.tuple #[])/\∃(Y:List bi)(I:Array Value),Y.Perm l/\yy Y/\I.size=cs.size/\I.toList.take (l.length*4)=Y.flatMap bi.cells/\Mod w' w0 (aE g (.cells I 44 (0,0))*F):=by
 have eg:∀args w,(callFunc 188 args).run Tryz.prog w=.ok (.enter 188 args) w:=enters_of Tryz.func188 kRf rfl;have hh:w.heap[g]?=some (.cells cs 44 (0,0)):=Mod.heap (m:=m)
 have hH:HoldsK bi.cells 4 w g 0 l.toArray:=by
  intro j J;have U:j<l.length*4:=by simpa using J
  have e1:cs[j]?=some (flatK bi.cells 4 l.toArray)[j]! := by
   have Z:=congrArg (fun z=>z[j]?) M;simp only[Yi U,ZG]at Z;rw[Z,<-xC,ZG,Yk J,getElem!_pos _ j J]
  refine⟨?_,bh (w:=w) (cs:=cs) (t:=44)⟩;rw[ZM,ab (w:=w) (cs:=cs) (t:=44),e1];rfl
 have E:=AnyQ.slices_SortFunc Tryz.sortF 4 K9 Nq bi.cells (fun _=>rfl) (fun x v hv=>by simp[bi.cells]at hv;rcases hv with rfl | rfl | rfl | rfl <;> rfl) yU Pf 188 #[] g 0 c l.toArray w eg (Li g 0 _ w) hH (ZX.1 hh).1 (by simp;omega);simp only[Zl]at E;refine Calls.mono E ?_;rintro e w' ⟨rfl,y,n,os,⟨B,_,K⟩,hs,rfl⟩;simp only[Zl]at B;have V:(flatK bi.cells 4 y).size=l.length*4:=by simp[B]
 obtain⟨k1,k2⟩:=Bx (flatK bi.cells 4 y) cs oMg;refine⟨rfl,y.toList,putCells id 0 (flatK bi.cells 4 y) cs,?_,?_,k2,?_,?_⟩
 ·have:y.extract 0 l.length=y:=by rw[<-B];simp
  rw[this]at K;simpa using K
 ·unfold yy
  rw[Z0];intro i j hi J O;have:=hs i j (Zv _) O (by simpa [B]using J);rw[getElem!_pos y j (by simpa using J),getElem!_pos y i (by simpa using hi)]at this;simpa using this
 ·rw[V]at k1
  rw[k1];have:=xC y.toList;simpa using this
 ·exact LC (GT (w:=Sort.ahead w n) ⟨m.os,m.tape,m.output,m.says⟩ _) os
end Go.Proofs.YtdfppjcaelghhaaGreatDoor
namespace Go.Sl.U32
open Go Go.Sl
abbrev eR:=List (Nat×Value)
structure fb (es:Array MapEntry)(clock:Nat)(L:eR):Prop where
 keys:es.toList.map (fun e=>(e.key,e.val))=L.map (fun p=>(Value.int .u32 (p.1:Int),p.2))
 born:es.toList.Pairwise (fun a b=>a.born<b.born)
 lt:∀e∈es.toList,e.born<clock
 nodup:(L.map (·.1)).Nodup
def gv (r:Nat)(L:eR):ba:=⟨fun h=>∃z y,fb z y L/\h=Hp.one r (.map z y)⟩
def br {α:Type}(L:List (Nat×α))(s:Nat):Option α:=(L.find? (fun p=>decide (p.1=s))).map (·.2)
def cV {α:Type}(L:List (Nat×α))(s:Nat)(v:α):List (Nat×α) :=
 if L.any (fun p=>decide (p.1=s))then L.map (fun p=>if p.1=s then (p.1,v)else p)else L++[(s,v)]
def cG {α:Type}(L:List (Nat×α))(s:Nat):List (Nat×α):=L.filter (fun p => !decide (p.1=s))
class dc (S:ba)(r:Nat)(L:outParam eR):Prop where
 has:∀h,S.says h->∃es clock,fb es clock L/\h r=some (.map es clock)
instance dc.smap (r:Nat)(L:eR):dc (gv r L) r L:=⟨fun h ⟨y,c,B,z⟩=>⟨y,c,B,by rw[z];simp[Hp.one]⟩⟩
instance dc.left (A B:ba)(r:Nat)(L:eR) [E:dc A r L]:dc (A*B) r L :=
 ⟨by
   rintro h ⟨a,b,_,rfl,z,_⟩;obtain⟨y,c,J,I⟩:=E.has a z
   exact⟨y,c,J,by simp[Hp.join,I]⟩⟩
instance dc.right (A B:ba)(r:Nat)(L:eR) [K:dc B r L]:dc (A*B) r L :=
 ⟨by
   rintro h ⟨a,b,I,rfl,O,J⟩;obtain⟨E,c,M,z⟩:=K.has b J;refine⟨E,c,M,?_⟩;rcases I r with y | y
   ·simp[Hp.join,y,z]
   ·rw[y]at z;cases z⟩
instance eM.smap (r:Nat)(L:eR):eM (gv r L) (gv r) L sC:=⟨(eI _).symm⟩
theorem fb.made:fb #[] 0 []:=⟨rfl,by simp,by simp,by simp⟩
theorem pz (r:Nat):(gv r []).says (Hp.one r (.map #[] 0)):=⟨#[],0,fb.made,rfl⟩
theorem Dc {w w0:World}{S:ba}{n:Nat} [m:Mod w w0 (Go.Sl.gv n []*S)]:Mod w w0 (gv n []*S) :=
 Mod.conv (S:=Go.Sl.gv n []*S) fun x I=>lF (A:=Go.Sl.gv n []) (A':=gv n []) (fun y ⟨z,c,E,B⟩=>by
  have:z=#[]:=by have:=congrArg List.length E.keys;simpa using this
  subst this
  exact⟨#[],c,⟨rfl,by simp,by simp,by simp⟩,B⟩) I
class od (P:Program)(t:TypeId):Prop where
 map:P.underlying t=some (.map (P.mapKey t) (P.mapElem t))
 key:P.underlying (P.mapKey t)=some (.int .u32)
 zero:∀w,(zeroValue (P.mapElem t)).run P w=.ok (P.zeroOf (P.mapElem t)) w
section
variable {P:Program}{w w0:World}{S:ba}{t:TypeId}{r:Nat}{L:eR}
theorem mapBlock (w:World) [m:Mod w w0 S] [h:dc S r L]:∃z y,fb z y L/\w.heap[r]?=some (.map z y):=by
 obtain⟨a,b,_,B,E,_⟩:=m.says;obtain⟨z,c,J,I⟩:=h.has a E;refine⟨z,c,J,?_⟩;have:hp w r=some (.map z c):=by rw[B];simp[Hp.join,I]
 exact this
theorem fB {o:Obj}(h:w.heap[r]?=some o)(y:∀c e f,o ≠ .cells c e f):(getObj r).run P w=.ok o w:=by
 cases o <;> simp[getObj,Sem.run,h] <;> exact absurd rfl (y _ _ _)
theorem run_setObj_at {o o':Obj}(h:w.heap[r]?=some o)(y:∀c e f,o ≠ .cells c e f):(setObj r o').run P w=.ok () {w with heap:=w.heap.setIfInBounds r o' }:=by
 cases o <;> simp[setObj,Sem.run,h] <;> exact absurd rfl (y _ _ _)
theorem dd (s:Nat):∀(y:List MapEntry)(L:eR)(i:Nat),y.map (fun e=>(e.key,e.val))=L.map (fun p=>(Value.int .u32 (p.1:Int),p.2)) ->
 Instr.findNow (.int .u32) (.int .u32 (s:Int)) y i=some ((L.findIdx? (fun p=>decide (p.1=s))).bind fun j=>(L[j]?).map fun p=>(i+j,p.2))
 | [],L,i,h=>by
   have:L=[]:=by cases L;rfl;simp at h
   subst this;simp[Instr.findNow]
 | e::y,[],i,h=>by simp at h
 | e::y,p::L,i,h=>by
   simp only[Zy,zbf,Prod.mk.injEq]at h;obtain⟨⟨E,J⟩,I⟩:=h;have K:=dd s y L (i+1) I;simp only[Instr.findNow,E,Instr.sameNow,Xo];by_cases z:p.1=s
   ·have B:((s:Int)==(p.1:Int))=true:=beq_iff_eq.2 (by rw[z])
    simp only[B];simp[z,J]
   ·have B:((s:Int)==(p.1:Int))=false:=by
     cases h:((s:Int)==(p.1:Int))with
     | false=>rfl
     | true=>exact absurd (Int.ofNat.inj (beq_iff_eq.1 h)).symm z
    simp only[B,z,decide_false];rw[K]
    cases M:L.findIdx? (fun p=>decide (p.1=s))with
    | none=>simp
    | some j=>simp[YB,XR 1 j]
theorem j2 (L:eR)(s:Nat):br L s=(L.findIdx? (fun p=>decide (p.1=s))).bind fun j=>(L[j]?).map (·.2):=by
 unfold br
 induction L with
 | nil=>simp
 | cons p L z =>
   simp only[List.find?_cons,Xo];by_cases y:p.1=s
   ·simp[y]
   ·simp only[y,z,decide_false]
    cases B:L.findIdx? (fun p=>decide (p.1=s)) <;> simp
theorem j4 {s:Nat} [T:od P t]{y:Array MapEntry}{c:Nat}(z:fb y c L)(w:World) :
 (Instr.findKey (P.mapKey t) (.int .u32 (s:Int)) y.toList).run P w=.ok ((L.findIdx? (fun p=>decide (p.1=s))).bind fun j=>(L[j]?).map fun p=>(j,p.2)) w:=by
 have:=dd s y.toList L 0 z.keys;simp only[ZM]at this;exact MapKept.run_findKey T.key this
theorem eK {s:Nat} [T:od P t](b:Bool)(w:World):(Instr.checkKey b 10000 (P.mapKey t) (.int .u32 (s:Int))).run P w=.ok () w :=
 MapKept.run_checkKey (d:=.int .u32) T.key (by trivial) b 9999
@[go_sem] theorem s9 (s:Nat) [Mod w w0 S] [dc S r L] [T:od P t] :
 (Instr.lookup t (.map (some r)) (.int .u32 (s:Int)) true).run P w=.ok (.tuple #[(br L s).getD (P.zeroOf (P.mapElem t)),.bool (br L s).isSome]) w:=by
 obtain⟨M,c,K,I⟩:=mapBlock (w0:=w0) (S:=S) (r:=r) (L:=L) w;have y:=j4 (P:=P) (t:=t) (s:=s) K w;have z:=j2 L s
 cases B:L.findIdx? (fun p=>decide (p.1=s))with
 | none=>rw[B]at y z;simp[Instr.lookup,run_underlying T.map,fB I,eK,y,T.zero,z]
 | some j =>
   rw[B]at y z;obtain⟨J,_⟩:=Zk.1 B;have E:L[j]?=some L[j]:=Zg J;simp[E]at y z;simp[Instr.lookup,run_underlying T.map,fB I,eK,y,z]
@[go_sem] theorem vV (s:Nat) [Mod w w0 S] [dc S r L] [T:od P t] :
 (Instr.lookup t (.map (some r)) (.int .u32 (s:Int)) false).run P w=.ok ((br L s).getD (P.zeroOf (P.mapElem t))) w:=by
 obtain⟨M,c,K,I⟩:=mapBlock (w0:=w0) (S:=S) (r:=r) (L:=L) w;have y:=j4 (P:=P) (t:=t) (s:=s) K w;have z:=j2 L s
 cases B:L.findIdx? (fun p=>decide (p.1=s))with
 | none=>rw[B]at y z;simp[Instr.lookup,run_underlying T.map,fB I,eK,y,T.zero,z]
 | some j =>
   rw[B]at y z;obtain⟨J,_⟩:=Zk.1 B;have E:L[j]?=some L[j]:=Zg J;simp[E]at y z;simp[Instr.lookup,run_underlying T.map,fB I,eK,y,z]
@[go_sem] theorem vU (ty:TypeId) [Mod w w0 S] [dc S r L] [T:od P t]:(Builtin.len_ #[t] ty #[.map (some r)]).run P w=.ok (goInt L.length) w:=by
 obtain⟨y,c,B,E⟩:=mapBlock (w0:=w0) (S:=S) (r:=r) (L:=L) w;have z:y.size=L.length:=by have:=congrArg List.length B.keys;simpa using this
 simp[Builtin.len_,run_underlying T.map,fB E,z]
def _root_.Go.World.pO (w:World)(r:Nat)(s:Nat)(v:Value):World :=
 match w.heap[r]? with
 | some (.map es clock) =>
   {w with heap:=w.heap.setIfInBounds r (match Instr.findNow (.int .u32) (.int .u32 (s:Int)) es.toList 0 with
    | some (some (i,_))=>.map (es.modify i fun e=>{e with key:=.int .u32 (s:Int),val:=v}) clock
    | _=>.map (es.push {key:=.int .u32 (s:Int),val:=v,born:=clock}) (clock+1))}
 | _=>w
def _root_.Go.World.pN (w:World)(r:Nat)(s:Nat):World :=
 match w.heap[r]? with
 | some (.map es clock) =>
   {w with heap:=w.heap.setIfInBounds r (match Instr.findNow (.int .u32) (.int .u32 (s:Int)) es.toList 0 with
    | some (some (i,_))=>.map (es.eraseIdxIfInBounds i) clock
    | _=>.map es clock)}
 | _=>w
theorem sH {y:Array MapEntry}{c:Nat}(E:fb y c L){j:Nat}(z:j<L.length):∃e,y[j]?=some e/\e.key=.int .u32 (L[j].1:Int)/\e.val=L[j].2:=by
 have B:y.size=L.length:=by have:=congrArg List.length E.keys;simpa using this
 refine⟨y[j],by simp[B,z],?_⟩;have:=congrArg (fun l=>l[j]?) E.keys;simp[B,z]at this;exact this
theorem kU (s:Nat)(v:Value) [Mod w w0 S] [dc S r L] [T:od P t] :
 (Instr.mapUpdate t (.map (some r)) (.int .u32 (s:Int)) v).run P w=.ok () (w.pO r s v):=by
 obtain⟨V,c,M,z⟩:=mapBlock (w0:=w0) (S:=S) (r:=r) (L:=L) w;have B:=j4 (P:=P) (t:=t) (s:=s) M w;have y:=dd s V.toList L 0 M.keys;simp only[ZM]at y
 cases I:L.findIdx? (fun p=>decide (p.1=s))with
 | none =>
   rw[I]at B y;simp[Instr.mapUpdate,run_underlying T.map,fB z,eK,B,World.pO,z,y,run_setObj_at z]
 | some j =>
   rw[I]at B y;obtain⟨U,hk,_⟩:=Zk.1 I;have J:L[j]?=some L[j]:=Zg U;obtain⟨e,Y,E,Z⟩:=sH M U;have K:L[j].1=s:=by simpa using hk
   simp[J]at B y
   have O:(Instr.keyThatStays (.int .u32 (L[j].1:Int)) (.int .u32 (s:Int))).run P w=.ok (.int .u32 (s:Int)) w:=by
    rw[K];simp[Instr.keyThatStays,Instr.sameBits]
   simp[Instr.mapUpdate,run_underlying T.map,fB z,eK,B,World.pO,z,y,run_setObj_at z,Y,E,O]
attribute [go_sem] kU
theorem mT (ty O:TypeId)(s:Nat) [Mod w w0 S] [dc S r L] [T:od P t] :
 (Builtin.delete_ #[t,O] ty #[.map (some r),.int .u32 (s:Int)]).run P w=.ok (.tuple #[]) (w.pN r s):=by
 obtain⟨K,c,J,z⟩:=mapBlock (w0:=w0) (S:=S) (r:=r) (L:=L) w;have B:=j4 (P:=P) (t:=t) (s:=s) J w;have y:=dd s K.toList L 0 J.keys;simp only[ZM]at y
 cases E:L.findIdx? (fun p=>decide (p.1=s))with
 | none =>
   rw[E]at B y;simp[Builtin.delete_,run_underlying T.map,fB z,eK,B,World.pN,z,y,run_setObj_at z]
 | some j =>
   rw[E]at B y;obtain⟨M,U,_⟩:=Zk.1 E;have I:L[j]?=some L[j]:=Zg M;simp[I]at B y;simp[Builtin.delete_,run_underlying T.map,fB z,eK,B,World.pN,z,y,run_setObj_at z]
attribute [go_sem] mT
@[go_sem] theorem ua:(Instr.makeMap t none).run P w=.ok (.map (some w.heap.size)) (w.alloc (.map #[] 0)):=by
 simp[Instr.makeMap]
theorem dq {α β:Type}(f:α->β):∀(l:List α)(j:Nat),(l.eraseIdx j).map f=(l.map f).eraseIdx j
 | [],_=>by simp
 | _::_,0=>by simp
 | a::l,j+1=>by simp[dq f l j]
theorem om {z:Array MapEntry}{j:Nat}{s:Nat}{v:Value}(I:j<L.length)(B:z.toList.map (fun e=>(e.key,e.val))=L.map (fun p=>(Value.int .u32 (p.1:Int),p.2)))
 (K:L[j].1=s):(z.modify j fun e=>{e with key:=.int .u32 (s:Int),val:=v}).toList.map (fun e=>(e.key,e.val))=(L.modify j fun p=>(p.1,v)).map (fun p=>(Value.int .u32 (p.1:Int),p.2)):=by
 have J:z.size=L.length:=by have:=congrArg List.length B;simpa using this
 apply Yu;intro i;have E:=congrArg (fun l=>l[i]?) B;simp only[Yc,ZG]at E;simp only[Yc,ZG,Yo,Xd];by_cases y:j=i
 ·subst y
  simp[J,I,K]
 ·simp only[if_neg y]
  cases M:z[i]? <;> cases O:L[i]? <;> simp_all
theorem pu {s:Nat}{v:Value}{j:Nat}(hn:(L.map (·.1)).Nodup)(z:j<L.length)(E:L[j].1=s):cV L s v=L.modify j fun p=>(p.1,v):=by
 unfold cV;rw[if_pos (Yb.2 ⟨L[j],Zq z,by simp[E]⟩)];apply Yu;intro i;simp only[Yc,Xd];by_cases y:j=i
 ·subst y;simp[z,E]
 ·simp only[if_neg y]
  cases I:L[i]? with
  | none=>simp
  | some p =>
    obtain⟨K,rfl⟩:=Yd.1 I
    have B:L[i].1≠s:=by
     intro J;have:=Xm (h₀:=by simpa using z) (h₁:=by simpa using K) hn;simp only[Xa]at this;exact y (this.1 (E.trans J.symm))
    simp[B]
theorem qy (L:eR)(s:Nat)(v:Value)(h:L.any (fun p=>decide (p.1=s))=true):(cV L s v).map (·.1)=L.map (·.1):=by
 unfold cV;rw[if_pos h,Yw];apply YS;intro p _;simp only[Function.comp]
 split <;> rfl
theorem of {s:Nat}{j:Nat}(y:j<L.length)(z:L[j].1=s):L.any (fun p=>decide (p.1=s))=true:=by
 exact Yb.2 ⟨L[j],Zq y,by simp[z]⟩
theorem fb.put {E:Array MapEntry}{c:Nat}(y:fb E c L)(s:Nat)(v:Value) :
 ∃O c',(match Instr.findNow (.int .u32) (.int .u32 (s:Int)) E.toList 0 with
  | some (some (i,_))=>Obj.map (E.modify i fun e=>{e with key:=.int .u32 (s:Int),val:=v}) c
  | _=>.map (E.push {key:=.int .u32 (s:Int),val:=v,born:=c}) (c+1))=.map O c'/\fb O c' (cV L s v):=by
 have J:=dd s E.toList L 0 y.keys;simp only[ZM]at J
 cases V:L.findIdx? (fun p=>decide (p.1=s))with
 | none =>
   rw[V]at J;simp only[Option.bind_none]at J;rw[J]
   have z:L.any (fun p=>decide (p.1=s))=false:=by
    rw[ZV]at V;rw[Y3];intro p hp;simpa using V p hp
   have B:cV L s v=L++[(s,v)]:=by unfold cV;rw[if_neg (by rw[z];simp)]
   refine⟨_,_,rfl,?_⟩;rw[B];refine⟨by simp[y.keys],?_,?_,?_⟩
   ·simp only[Xt]
    rw[Yf];exact⟨y.born,by simp,fun a Y b U=>by simp at U;subst U;exact y.lt a Y⟩
   ·intro e K
    simp only[Xt,ZA,ZE]at K;rcases K with K | rfl
    ·have:=y.lt e K;omega
    ·simp
   ·rw[ZP,Yx]
    refine⟨y.nodup,by simp,?_⟩;intro a Y b U;simp at U;subst U;rintro rfl;rw[Zz]at Y;obtain⟨p,hp,rfl⟩:=Y;rw[Y3]at z;exact z p hp (by simp)
 | some j =>
   rw[V]at J;obtain⟨Z,hk,_⟩:=Zk.1 V;have aa:L[j]?=some L[j]:=Zg Z;have M:L[j].1=s:=by simpa using hk
   simp only[Option.bind_some,aa,Option.map_some]at J;rw[J];refine⟨_,_,rfl,?_⟩;have B:=pu (v:=v) y.nodup Z M;refine⟨by rw[B];exact om Z y.keys M,?_,?_,by rw[qy L s v (of Z M)];exact y.nodup⟩
   ·have e:(E.modify j fun e=>{e with key:=.int .u32 (s:Int),val:=v}).toList.map (·.born)=E.toList.map (·.born):=by
     apply Yu;intro i;simp only[Yc,ZG,Yo]
     split
     ·cases E[i]? <;> simp
     ·rfl
    have:=y.born;have h1:(E.toList.map (·.born)).Pairwise (·<·):=Y5.2 this;rw[<-e]at h1;exact Y5.1 h1
   ·intro e K
    rw[zak]at K;obtain⟨i,I⟩:=K;simp only[ZG,Yo]at I
    split at I
    ·cases h2:E[i]? with
     | none=>rw[h2]at I;simp at I
     | some x =>
       rw[h2]at I;simp at I;subst I;exact y.lt x (Xb (by rw[ZG];exact h2))
    ·exact y.lt e (Xb (by rw[ZG];exact I))
theorem fb.del {y:Array MapEntry}{c:Nat}(z:fb y c L)(s:Nat) :
 ∃K c',(match Instr.findNow (.int .u32) (.int .u32 (s:Int)) y.toList 0 with
  | some (some (i,_))=>Obj.map (y.eraseIdxIfInBounds i) c
  | _=>.map y c)=.map K c'/\fb K c' (cG L s):=by
 have B:=dd s y.toList L 0 z.keys;simp only[ZM]at B
 cases M:L.findIdx? (fun p=>decide (p.1=s))with
 | none =>
   rw[M]at B;simp only[Option.bind_none]at B;rw[B]
   have hd:cG L s=L:=by
    unfold cG;rw[ZR];rw[ZV]at M;intro p hp;simpa using M p hp
   exact⟨_,_,rfl,by rw[hd];exact z⟩
 | some j =>
   rw[M]at B;obtain⟨I,hk,_⟩:=Zk.1 M;have V:L[j]?=some L[j]:=Zg I;have Y:L[j].1=s:=by simpa using hk
   simp only[Option.bind_some,V,Option.map_some]at B;rw[B];have hl:y.size=L.length:=by have:=congrArg List.length z.keys;simpa using this
   have E:(y.eraseIdxIfInBounds j).toList=y.toList.eraseIdx j:=by
    rw[Array.eraseIdxIfInBounds,dif_pos oMg];simp[]
   have hd:cG L s=L.eraseIdx j:=by
    unfold cG
    have U:∀(l:eR)(j:Nat)(I:j<l.length),(l.map (·.1)).Nodup->l[j].1=s->l.filter (fun p => !decide (p.1=s))=l.eraseIdx j:=by
     intro l
     induction l with
     | nil=>intro j I;simp at I
     | cons p l ih =>
       intro j I hn J;rw[Zy,Yq]at hn
       cases j with
       | zero =>
         simp only[List.getElem_cons_zero]at J;simp only[XF,List.tail_cons];rw[YZ,if_neg (by simp[J]),ZR];intro q hq;have:q.1≠s:=fun e=>hn.1 (by rw[J,<-e];exact ZC hq);simp[this]
       | succ j =>
         simp only[List.getElem_cons_succ]at J;have O:j<l.length:=by simpa using I
         have Z:p.1≠s:=fun e=>hn.1 (by rw[e,<-J];exact ZC (Zq O));rw[YZ,if_pos (by simp[Z]),List.eraseIdx_cons_succ,ih j O hn.2 J]
    exact U L j I z.nodup Y
   refine⟨_,_,rfl,?_⟩;rw[hd];refine⟨by rw[E,dq,z.keys,<-dq],?_,?_,?_⟩
   ·rw[E];exact z.born.sublist (Yy _ _)
   ·rw[E];exact fun e he=>z.lt e ((Yy _ _).subset he)
   ·rw[dq];exact z.nodup.sublist (Yy _ _)
theorem ms {F:ba}{J:eR}{E:World} [m:Mod w w0 S] [tk:eM S (gv r) L F](U:E.os=w.os)(V:E.tape=w.tape)(Y:E.output=w.output)
 (h:∀z c,fb z c L->w.heap[r]?=some (.map z c)->∃y c',E.heap=w.heap.setIfInBounds r (.map y c')/\fb y c' J):Mod E w0 (gv r J*F):=by
 have hb:dc S r L:=by rw[tk.eq];infer_instance
 obtain⟨z,c,Z,M⟩:=mapBlock (w0:=w0) (S:=S) (r:=r) (L:=L) w;obtain⟨y,c',K,I⟩:=h z c Z M;have hr:r<w.heap.size:=(ZX.1 M).1;refine Mod.turn (w:=w) (g:=r) (pred:=gv r) (u:=L) U V Y (fun k B=>?_) (fun x ⟨z,c,_,O⟩=>?_) (fun x ⟨z,c,_,O⟩ _=>?_)
 ·rw[K,YX (Ne.symm B)]
 ·rw[O];exact⟨fun k B=>by simp[Hp.one,B],by simp[Hp.one]⟩
 ·refine⟨y,c',I,?_⟩
  funext k
  by_cases B:k=r
  ·subst B;simp[Hp.one,K,hr]
  ·simp[Hp.one,B]
instance Mod.oB {F:ba}{s:Nat}{v:Value} [m:Mod w w0 S] [K:eM S (gv r) L F]:Mod (w.pO r s v) w0 (gv r (cV L s v)*F):=by
 have M:dc S r L:=by rw[K.eq];infer_instance
 obtain⟨E,c,B,y⟩:=mapBlock (w0:=w0) (S:=S) (r:=r) (L:=L) w;refine ms (w:=w) (L:=L) (F:=F) ?_ ?_ ?_ (fun E c B y=>?_)
 ·simp[World.pO,y]
 ·simp[World.pO,y]
 ·simp[World.pO,y]
 ·obtain⟨z,c',I,J⟩:=B.put s v
  exact⟨z,c',by simp only[World.pO,y];rw[<-I],J⟩
instance Mod.nG {F:ba}{s:Nat} [m:Mod w w0 S] [K:eM S (gv r) L F]:Mod (w.pN r s) w0 (gv r (cG L s)*F):=by
 have M:dc S r L:=by rw[K.eq];infer_instance
 obtain⟨E,c,B,y⟩:=mapBlock (w0:=w0) (S:=S) (r:=r) (L:=L) w;refine ms (w:=w) (L:=L) (F:=F) ?_ ?_ ?_ (fun E c B y=>?_)
 ·simp[World.pN,y]
 ·simp[World.pN,y]
 ·simp[World.pN,y]
 ·obtain⟨z,c',I,J⟩:=B.del s
  exact⟨z,c',by simp only[World.pN,y];rw[<-I],J⟩
end
end Go.Sl.U32
namespace Go.Sl
open Go
def yJ (y:List Nat)(k:Nat):List Nat:=if k∈y then y else y++[k]
theorem yK:∀(l y:List Nat),y.Nodup->(l.foldl yJ y).length<=y.length+l.length/\((l.foldl yJ y).length=y.length+l.length↔(y++l).Nodup)
 | [],y,h=>⟨by simp,by simp[h]⟩
 | k::l,y,h=>by
   simp only[List.foldl_cons];unfold yJ;by_cases B:k∈y
   ·rw[if_pos B]
    have z:=(yK l y h).1;unfold yJ at z;refine⟨by simp only[List.length_cons];omega,⟨fun e=>by simp only[List.length_cons]at e;omega,fun e=>?_⟩⟩;rw[Yx]at e;exact absurd rfl (e.2.2 k B k (by simp))
   ·rw[if_neg B]
    have I:(y++[k]).Nodup:=by
     rw[Yx];refine⟨h,by simp,fun a J b E=>?_⟩;simp at E;subst E;rintro rfl;exact B J
    have z:=yK l (y++[k]) I;unfold yJ at z;simp only[Ze,List.length_cons,List.length_nil,Zr,List.cons_append,List.nil_append]at z ⊢;exact⟨oMg,by rw[<-z.2];omega⟩
def jU (l:List bi):Bool := !decide (l.map (·.num)).Nodup
theorem Ih (l:List bi):decide (((l.map (·.num)).foldl yJ []).length<l.length)=jU l:=by
 have h:=yK (l.map (·.num)) [] (by simp);simp only[List.length_nil,ZW,ZM,List.nil_append]at h;unfold jU;by_cases hn:(l.map (·.num)).Nodup
 ·have e:=h.2.2 hn
  simp[hn,e]
 ·have:¬((l.map (·.num)).foldl yJ []).length=l.length:=fun e=>hn (h.2.1 e)
  simp[hn];omega
theorem JJ (L:U32.eR)(s:Nat)(v:Value):(U32.cV L s v).map (·.1)=yJ (L.map (·.1)) s:=by
 unfold yJ;by_cases h:L.any (fun p=>decide (p.1=s))=true
 ·rw[U32.qy L s v h,if_pos]
  obtain⟨p,hp,y⟩:=Yb.1 h;exact Zz.2 ⟨p,hp,by simpa using y⟩
 ·rw[if_neg]
  ·unfold U32.cV;rw[if_neg h];simp
  ·intro z
   obtain⟨p,hp,y⟩:=Zz.1 z;exact h (Yb.2 ⟨p,hp,by simpa using y⟩)
def tr (L:U32.eR):Prop:=∀p∈L,∃c:Int,p.2=.int .i64 c
theorem tr.put {L:U32.eR}(h:tr L)(s:Nat)(c:Int):tr (U32.cV L s (.int .i64 c)):=by
 unfold U32.cV
 split
 ·intro p hp
  obtain⟨q,y,rfl⟩:=Zz.1 hp
  split
  ·exact⟨c,rfl⟩
  ·exact h q y
 ·intro p hp
  rcases ZA.1 hp with hp | hp
  ·exact h p hp
  ·simp at hp;subst hp;exact⟨c,rfl⟩
theorem tr.get {L:U32.eR}(h:tr L)(s:Nat):∃c:Int,(U32.br L s).getD (.int .i64 0)=.int .i64 c:=by
 unfold U32.br
 cases z:L.find? (fun p=>decide (p.1=s))with
 | none=>exact⟨0,rfl⟩
 | some p =>
   obtain⟨c,y⟩:=h p (YA z);exact⟨c,by simp[y]⟩
end Go.Sl
namespace Go.Proofs.YtdfppjcaelghhaaGreatDoor
open Go.RowKit Go.Sl
attribute [local go_sem] ab bj bh
instance OO:U32.od Tryz.prog 307:=⟨by kernel_rfl,by kernel_rfl,fun w=>by kernel_rfl⟩
theorem Ft:Tryz.prog.zeroOf (Tryz.prog.mapElem 307)=.int .i64 0:=kRf
theorem xx (A:Option Addr)(n c:Nat)(l:List bi)(w w0:World)(S:ba)(m:Mod w w0 S)(r:du S A n l)(hn:n<=1000000000) :
 Calls Tryz.prog 183 #[.slice A n c] w fun e w'=>e=.returned (.bool (jU l))/\Mod w' w0 S:=by
 have R:=zbj r;have O:=Ih l;rw[r.len]at O;have Hz:=zbj O;generalize jU l=z at *;clear r O;obtain⟨g,K⟩:∃g,w.heap.size=g:=⟨_,rfl⟩;have m1:Mod (w.alloc (.map #[] 0)) w0 (Go.Sl.gv g []*S):=by rw[<-K];exact zbk
 have mM:Mod (w.alloc (.map #[] 0)) w0 (U32.gv g []*S):=U32.Dc;clear m1;go_enter Tryz.func183,Tryz.ntmps183
 go_wp2_with fail
 have Hg:=zbj K;clear K;go_loopg [9] n (fun gk iv wr=>∃(i:Nat)(L:U32.eR),i<=n/\gk=n-i/\iv=.int .i64 (i:Int)/\Hid (L.map (·.1)=((l.take i).map (·.num)).foldl yJ [])/\Hid (tr L)/\Mod wr w0 (U32.gv g L*S))
 case atStart=>exact⟨0,[],Zv _,rfl,rfl,rfl,(fun p hp=>by cases hp),mM⟩
 case round =>
  obtain⟨i,L,hi,aa,rfl,V,U,Y⟩:=hrel;by_cases y:i<n
  ·have M:(i:Int)<(n:Int):=oMg
   have B:i<l.length:=by rw[R.out.len];exact y
   obtain⟨b,o,rfl⟩:=j8 Y (R.out.lift zbk) y;obtain⟨c0,c1,c2,c3⟩:=oL R.out B
   have Z:Hid (∀v,(U32.cV L l[i].num v).map (·.1)=((l.take (i+1)).map (·.num)).foldl yJ []):=fun v=>by
    rw[JJ,V.out,Zx B,ZP,Xg];rfl
   generalize l[i]=f at *;obtain⟨cc,J⟩:=U.out.get f.num;rw[<-Ft]at J;go_wp2_with fail
   go_roundg (n-(i+1))
   case measure=>omega
   case rel=>exact⟨i+1,U32.cV L f.num (.int .i64 (wrap64 (cc+1))),y,rfl,by go_num,Z.out _,U.out.put _ _,Mod.keep zbk⟩
  ·have M:¬(i:Int)<(n:Int):=oMg
   have E:decide (L.length<n)=z:=by
    rw[<-Hz.out,Zn (by have:=R.out.len;omega)]at *;have:=congrArg List.length V.out;rw[ZW]at this;rw[this]
   have I:=zbj E;clear E;go_wp2_with fail
   go_ret
   exact⟨by rw[<-I.out];simp,Y.drop⟩
end Go.Proofs.YtdfppjcaelghhaaGreatDoor
namespace Go.Sl
open Go Go.Sort Go.Lib Go.Shelf Go.Proofs Go.RowKit Go.Proofs.YtdfppjcaelghhaaGreatDoor
def jg:List bi->List Nat->Option (List bi)
 | l,[]=>some l
 | l,v::vs=>match l.findIdx? (fun f=>decide (f.num=v))with
   | none=>none
   | some i=>jg (l.eraseIdx i) vs
def JN (a b:bi):Bool := !ltOf yU b a
def ei (l:List bi):List bi:=l.mergeSort JN
def FT (l:List bi)(x:db):Option (List bi) :=
 if kh l=false\/kh x.added=false\/jU l=true then none else
 match jg l x.removed with
 | none=>none
 | some y=>if jU (y++x.added)=true then none else some (ei (y++x.added))
theorem yp (a b:bi):JN a b=true↔a.level<b.level\/a.level=b.level/\a.num<=b.num:=by
 unfold JN;rw[O0];simp;omega
theorem qI (l:List bi):(ei l).Pairwise fun a b=>JN a b=true :=
 List.pairwise_mergeSort (fun a b c y z=>by rw[yp]at *;omega) (fun a b=>by
  rw[Xh,yp,yp];omega) l
theorem Hi {l y:List bi}(hp:y.Perm l)(Z:yy y)(ht:jU l=false):y=ei l:=by
 have hn:(l.map (·.num)).Nodup:=by unfold jU at ht;simpa using ht
 have J:y.Perm (ei l):=hp.trans (YI l JN).symm;refine XX (le:=fun a b=>JN a b=true) ?_ ?_ (qI l) J
 ·intro a b O U K M
  rw[yp]at K M;have B:a.num=b.num:=oMg
  have z:=hp.subset O;have E:=(YI l JN).subset U;obtain⟨i,V,rfl⟩:=ZI.1 z;obtain⟨j,Y,rfl⟩:=ZI.1 E;have:=Xm (h₀:=by simpa using V) (h₁:=by simpa using Y) hn;simp only[Xa]at this;have I:=this.1 B;subst I;rfl
 ·exact Z.imp fun h=>by unfold JN;rw[h];rfl
end Go.Sl
namespace Go.Proofs.YtdfppjcaelghhaaGreatDoor
open Go.RowKit Go.Sl
attribute [local go_sem] ab bj bh bd
theorem Jj (p num:Nat)(f:bi)(w w0:World)(S:ba)(m:Mod w w0 S)(hp:jq S p (.cells #[.int .u32 (num:Int)] 42 (0,0))):Calls Tryz.prog 185 #[.agg #[.int .u32 (f.num:Int),.int .i64 f.level,.string f.least,.string f.most],.pointer (some ⟨p,0,none⟩)] w fun e E=>e=.returned (.bool (decide (f.num=num)))/\Mod E w0 S:=by
 obtain⟨y,lv,a,b⟩:=f;obtain⟨z,B⟩:∃z,decide (y=num)=z:=⟨_,rfl⟩
 have I:((y:Int)==(num:Int))=z:=by
  rw[<-B];by_cases h:y=num
  ·simp[h]
  ·have:¬(y:Int)=(num:Int):=oMg
   simp[h,this]
 show Calls Tryz.prog _ #[.agg #[.int .u32 (y:Int),.int .i64 lv,.string a,.string b],_] _ fun e E=>e=.returned (.bool (decide (y=num)))/\_;rw[B];clear B;go_enter Tryz.func185,Tryz.ntmps185
 go_wp2_with fail
 go_ret
 exact⟨rfl,Mod.keep (Mod.alloc (m:=m) _)⟩
theorem Bo (p num:Nat)(A:Option Addr)(n c:Nat)(l:List bi)(w w0:World)(S:ba)(m:Mod w w0 S)(hp:jq S p (.cells #[.int .u32 (num:Int)] 42 (0,0)))(r:du S A n l)(hn:n<=1000000000) :
 Calls Tryz.prog 184 #[.slice A n c,.func (.func 185) #[] #[.pointer (some ⟨p,0,none⟩)]] w fun e w'=>e=.returned (.int .i64 (ko (fun f=>decide (f.num=num)) l))/\Mod w' w0 S:=by
 have R:=zbj r;obtain⟨z,Y⟩:∃z,ko (fun f=>decide (f.num=num)) l=z:=⟨_,rfl⟩;rw[Y];have Hz:=zbj Y;clear r Y;go_enter Tryz.func184,Tryz.ntmps184
 go_wp2_with fail
 go_loopg [8] n (fun gk iv wr=>∃i:Nat,i<=n/\gk=n-i/\iv=.int .i64 (i:Int)/\Hid (∀j (_:j<l.length),j<i->decide (l[j].num=num)=false)/\Mod wr w0 S)
 case atStart=>exact⟨0,Zv _,rfl,rfl,(fun j _ O=>by omega),m⟩
 case round =>
  obtain⟨i,hi,aa,rfl,B,U⟩:=hrel;by_cases J:i<n
  ·have V:(i:Int)<(n:Int):=oMg
   have K:i<l.length:=by rw[R.out.len];exact J
   obtain⟨b,o,rfl⟩:=j8 U R.out J;obtain⟨c0,c1,c2,c3⟩:=oL R.out K;have M:=zbj (fun(u:World)(mu:Mod u w0 S)=>Jj p num l[i] u w0 S mu hp)
   cases y:decide (l[i].num=num)with
   | false =>
     rw[y]at M
     have I:Hid (∀j (_:j<l.length),j<i+1->decide (l[j].num=num)=false):=fun j O ae=>by
      by_cases e:j=i
      ·subst e;exact y
      ·exact B.out j O oMg
     clear y;generalize l[i]=f at *;go_wp2_with (go_at_call 185;refine(M.out _ U).mono ?_;rintro e w1 ⟨rfl,Z⟩)
     go_roundg (n-(i+1))
     case measure=>omega
     case rel=>exact⟨i+1,J,rfl,by go_num,I,Z⟩
   | true =>
     rw[y]at M;have E:Hid (z=(i:Int)):=by show _=_;rw[<-Hz.out];exact zB K B.out y
     clear y;generalize l[i]=f at *;go_wp2_with (go_at_call 185;refine(M.out _ U).mono ?_;rintro e w1 ⟨rfl,Z⟩)
     (try rw[Exit.noGoto_ret])
     go_ret
     exact⟨by rw[E.out];rfl,Z⟩
  ·have V:¬(i:Int)<(n:Int):=oMg
   have E:Hid (z = -1):=by
    show _=_;rw[<-Hz.out];exact vC fun j O=>B.out j O (by have:=R.out.len;omega)
   go_wp2_with fail
   go_ret
   exact⟨by rw[E.out];rfl,U⟩
end Go.Proofs.YtdfppjcaelghhaaGreatDoor
namespace Go.Sl
open Go Go.Sort
theorem lG {w0:World}{g:Nat}{ty:TypeId}{F:ba}:∀(y:List Value)(o:Nat)(cs:Array Value)(w:World),Mod w w0 (aE g (.cells cs ty (0,0))*F)->Mod (w.setCells g o y) w0 (aE g (.cells (setMany cs o y) ty (0,0))*F)
 | [],_,_,_,m=>m
 | v::y,o,cs,w,m=>by
   have z:eM (aE g (.cells cs ty (0,0))*F) (aE g) (.cells cs ty (0,0)) F:=⟨rfl⟩;exact lG y (o+1) (cs.setIfInBounds o v) (w.setCell ⟨g,o,none⟩ v) (Mod.setCells (m:=m) (t:=z) v)
theorem ml? (cs:Array Value)(o:Nat)(y:List Value)(h:o+y.length<=cs.size)(t:Nat):(setMany cs o y)[t]?=if o<=t/\t<o+y.length then y[t-o]? else cs[t]?:=by
 by_cases ht:t<cs.size
 ·have e:=get_setMany y o cs t ht
  rw[getElem!_pos _ t (by simpa using ht)]at e;rw[Yk (by simpa using ht),e]
  split
  ·rename_i h2
   rw[getElem!_pos y (t-o) oMg,Zg oMg]
  ·rw[getElem!_pos cs t ht,Yk ht]
 ·rw[YN (by simp;omega),if_neg oMg,YN oMg]
theorem wpList_append_run {P:Program}{w E:World}{z:Array Oper}{rest:List Oper}{o:Oper}{a:Act}{Q:Exit->Act->World->Prop}{s x:Operand}{t:TypeId}{v u r:Value}(B:o.guard=none)
 (J:o.op=.call {callee:=.builtin .append,args:=#[s,x],argTypes:=#[t,t]}) (K:a.eval s=v) (M:a.eval x=u) (y:(Builtin.append_ #[t,t] o.type #[v,u]).run P w=.ok r E) (h:wpList P z Q rest (a.put o.dst r) E):wpList P z Q (o::rest) a w :=
 wpList_plain B fun _ I=>by
  unfold Oper.wp execOp;simp only[J,resolve,invoke,builtin,Sem.run_bind,Sem.run_pure,Result.andThen_ok,Y0,Zy,Ye,K,M,y];exact I _ _ h
end Go.Sl
namespace Go.Proofs.YtdfppjcaelghhaaGreatDoor
open Go.RowKit Go.Sl Go.Sort
attribute [local go_sem] ab bj bh bd
def mc:List Value:=[.int .u32 0,.int .i64 0,.string ByteArray.empty,.string ByteArray.empty]
theorem An {w w0:World}{F:ba}{g o c:Nat}{cs:Array Value}(m:Mod w w0 (aE g (.cells cs 44 (0,0))*F))(h:o+4<=cs.size)(ty:TypeId) :
 (Builtin.clear_ #[40] ty #[.slice (some ⟨g,o,none⟩) 1 c]).run Tryz.prog w=.ok (.tuple #[]) (w.setCells g o mc):=by
 have K:w.heap[g]?=some (.cells cs 44 (0,0)):=Mod.heap (m:=m)
 have y:=run_storeCells_cells (P:=Tryz.prog) g o mc 0 w (fun j B=>by
  rw[ab (w:=w) (cs:=cs) (t:=44),Yk (by simp[mc]at B;omega)];rfl) (fun j B=>bh (w:=w) (cs:=cs) (t:=44)) (fun v E=>by simp[mc]at E;rcases E with rfl | rfl | rfl | rfl <;> rfl)
 simp only[Nat.add_zero]at y;have I:Tryz.prog.underlying 40=some (.slice 44):=kRf
 have J:∀w,(zeroValue 44).run Tryz.prog w=.ok (.agg mc.toArray) w:=fun w=>by kernel_rfl
 have z:(Builtin.zeroCells (Value.agg mc.toArray).cells 1).toList=mc:=by
  simp only[Builtin.zeroCells,Array.toList_map,Array.toList_range];rfl
 simp[Builtin.clear_,run_underlying I,J,z,y]
theorem Ms {w w0:World}{F:ba}{g i n c c' o':Nat}{cs:Array Value}(m:Mod w w0 (aE g (.cells cs 44 (0,0))*F))(Z:i<n)(U:o'=(i+1)*4\/n=i+1)(Y:n<=c)(hs:n*4<=cs.size)(M:∀v∈(cs.toList.take (n*4)).drop ((i+1)*4),v.oneCell'=true)(ty:TypeId) :
 (Builtin.append_ #[40,40] ty #[.slice (some ⟨g,0,none⟩) i c,.slice (some ⟨g,o',none⟩) (n-(i+1)) c']).run Tryz.prog w=.ok (.slice (some ⟨g,0,none⟩) (n-1) c) (w.setCells g (i*4) ((cs.toList.take (n*4)).drop ((i+1)*4))):=by
 have J:∃y,Tryz.prog.info? 44=some y/\y.size=4:=by
  have h:=KD
  cases K:Tryz.prog.info? 44 with
  | none=>rw[K]at h;cases h
  | some y=>rw[K]at h;exact⟨y,rfl,by simpa using h⟩
 obtain⟨y,E,B⟩:=J;have V:Tryz.prog.underlying 40=some (.slice 44):=kRf
 have z:((cs.toList.take (n*4)).drop ((i+1)*4)).length=(n-(i+1))*4:=by simp;omega
 have h:=run_append_room_cells (P:=Tryz.prog) w 40 ty 44 y V E g 0 i c ⟨g,o',none⟩ (n-(i+1)) c' ((cs.toList.take (n*4)).drop ((i+1)*4)) (by rw[B,z]) (fun j u I=>by
  have O:j<(n-(i+1))*4:=by have:=(Yd.1 I).1;omega
  obtain rfl:o'=(i+1)*4:=by rcases U with h | h;exact h;omega
  rw[Addr.add_lit,ab (w:=w) (cs:=cs) (t:=44),<-I,za2,Yi oMg,ZG]) M oMg (fun j I=>by
  rw[z]at I
  rw[ab (w:=w) (cs:=cs) (t:=44),B,Yk oMg];rfl) (fun j I=>bh (w:=w) (cs:=cs) (t:=44))
 rw[B,ZM,show i+(n-(i+1))=n-1 by omega]at h;exact h
theorem CT (i:Nat)(A:Option Addr)(n c:Nat)(xs:List Value)(hi:i<n)(hn:n<=1000000000)(h1:∀v∈xs,v.oneCell'=true)(w w0:World)(F:ba)(m:Mod w w0 (ar 44 4 (.slice A n c) n xs*F)) :
 Calls Tryz.prog 186 #[.slice A n c,.int .i64 (i:Int),.int .i64 ((i+1:Nat):Int)] w fun e w'=>e=.returned (.slice A (n-1) c)/\Mod w' w0 (ar 44 4 (.slice A (n-1) c) (n-1) (xs.take (i*4)++xs.drop ((i+1)*4))*F):=by
 obtain⟨g,cs,rfl,ah,aa,O,ae,M,m1⟩:=py m oMg;have B:=fun(q:Nat)(c' o':Nat)(ho:o'=(i+1)*4\/n=i+1)(ty:TypeId)=>Ms (w:=w.drewN q) (m:=Mod.drewN q (m:=m1)) (c':=c') (o':=o') hi ho ah oMg (by rw[M];exact fun v hv=>h1 v (List.drop_subset _ _ hv)) ty;rw[M]at B;obtain⟨news,E⟩:∃news,xs.drop ((i+1)*4)=news:=⟨_,rfl⟩;have K:news.length=(n-(i+1))*4:=by rw[<-E,ZF,O];omega
 rw[E]at B ⊢;have af:=zbj E;clear E m;have e1:(i:Int)<=((i+1:Nat):Int):=oMg
 have e2:((i+1:Nat):Int)<=(n:Int):=oMg
 have e3:(n:Int)<=(c:Int):=oMg
 have e4:¬(i:Int)=((i+1:Nat):Int):=oMg
 by_cases Z:c=i+1
 ·subst Z
  go_enter Tryz.func186,Tryz.ntmps186
  go_wp2_with fail
  refine j6 (C:=fun w'=>∃q:Nat,w'=w.drewN q) 6 kRf kRf ⟨1,rfl⟩ ?_;simp only[List.take_succ_cons,List.take_zero,ZY,Z6]
  repeat (go_big_quiet_step (fail))
  refine wpQuiet_nil ?_;rintro w3 ⟨q,rfl⟩;have z:=zbj (B q);clear B;have U:Mod ((w.drewN q).setCells g (i*4) news) w0 _:=lG news (i*4) cs (w.drewN q) (Mod.drewN q (m:=m1));have J:(Sort.setMany cs (i*4) news).size=(i+1)*4:=by rw[Sort.size_setMany,ae]
  have I:=fun(o c':Nat)(ho:o=(n-1)*4)(ty:TypeId)=>An (c:=c') (o:=o) U (by rw[J];omega) ty;have y:=zbj I;clear I
  have H3:Hid (Mod (((w.drewN q).setCells g (i*4) news).setCells g ((n-1)*4) mc) w0 (ar 44 4 (.slice (some ⟨g,0,none⟩) (n-1) (i+1)) (n-1) (xs.take (i*4)++news)*F)):=by
   have m3:=lG mc ((n-1)*4) _ _ U;have l4:mc.length=4:=rfl;have z1:(Sort.setMany (Sort.setMany cs (i*4) news) ((n-1)*4) mc).size=(i+1)*4:=by rw[Sort.size_setMany,J]
   refine me m3 oMg aa z1 ?_ ?_
   ·rw[Ze,K,Zt,O];omega
   ·apply Yu
    intro t;by_cases ht:t<(n-1)*4
    ·rw[Yi ht,ZG,ml? _ _ _ (by rw[J,l4];omega),if_neg oMg,ml? _ _ _ oMg]
     by_cases h2:t<i*4
     ·rw[if_neg oMg,Yz (by rw[Zt];omega),Yi h2,<-M,Yi oMg,ZG]
     ·rw[if_pos oMg,Z7 (by rw[Zt];omega),Zt,show min (i*4) xs.length=i*4 by omega]
    ·rw[YE (by rw[Zt];omega),YE (by rw[Ze,K,Zt];omega)]
  clear U;have V:=fun ty=>z.out 0 0 (.inr oMg) ty;simp only[show n-(i+1)=0 by omega]at V;have Y:=zbj V;clear V z;go_wp2_with (at_builtin;refine Hid.out ?_)
  refine zbj ?_;refine wpList_append_run rfl rfl rfl rfl (Y.out _) ?_;clear Y;go_wp2_with (at_builtin;refine Hid.out ?_)
  refine zbj ?_
  first
   | rw[show n-(n-1)=1 by omega,y.out _ _ rfl _]
   | rw[y.out _ _ rfl _]
  simp only[Result.andThen_ok];clear y;go_wp2_with fail
  go_ret
  refine⟨rfl,?_⟩;exact H3.out
 ·have ag:c-(i+1)≠0:=oMg
  go_enter Tryz.func186,Tryz.ntmps186
  go_wp2_with fail
  refine j6 (C:=fun w'=>∃q:Nat,w'=w.drewN q) 6 kRf kRf ⟨1,rfl⟩ ?_;simp only[List.take_succ_cons,List.take_zero,ZY,Z6]
  repeat (go_big_quiet_step (fail))
  refine wpQuiet_nil ?_;rintro w3 ⟨q,rfl⟩;have z:=zbj (B q);clear B;have U:Mod ((w.drewN q).setCells g (i*4) news) w0 _:=lG news (i*4) cs (w.drewN q) (Mod.drewN q (m:=m1));have J:(Sort.setMany cs (i*4) news).size=c*4:=by rw[Sort.size_setMany,ae]
  have I:=fun(o c':Nat)(ho:o=(n-1)*4)(ty:TypeId)=>An (c:=c') (o:=o) U (by rw[J];omega) ty;have y:=zbj I;clear I
  have H3:Hid (Mod (((w.drewN q).setCells g (i*4) news).setCells g ((n-1)*4) mc) w0 (ar 44 4 (.slice (some ⟨g,0,none⟩) (n-1) c) (n-1) (xs.take (i*4)++news)*F)):=by
   have m3:=lG mc ((n-1)*4) _ _ U;have l4:mc.length=4:=rfl;have z1:(Sort.setMany (Sort.setMany cs (i*4) news) ((n-1)*4) mc).size=c*4:=by rw[Sort.size_setMany,J]
   refine me m3 oMg aa z1 ?_ ?_
   ·rw[Ze,K,Zt,O];omega
   ·apply Yu
    intro t;by_cases ht:t<(n-1)*4
    ·rw[Yi ht,ZG,ml? _ _ _ (by rw[J,l4];omega),if_neg oMg,ml? _ _ _ oMg]
     by_cases h2:t<i*4
     ·rw[if_neg oMg,Yz (by rw[Zt];omega),Yi h2,<-M,Yi oMg,ZG]
     ·rw[if_pos oMg,Z7 (by rw[Zt];omega),Zt,show min (i*4) xs.length=i*4 by omega]
    ·rw[YE (by rw[Zt];omega),YE (by rw[Ze,K,Zt];omega)]
  clear U;have V:=fun ty=>z.out (c-(i+1)) ((i+1)*4) (.inl rfl) ty;have Y:=zbj V;clear V z;go_wp2_with (at_builtin;refine Hid.out ?_)
  refine zbj ?_;refine wpList_append_run rfl rfl rfl rfl (Y.out _) ?_;clear Y;go_wp2_with (at_builtin;refine Hid.out ?_)
  refine zbj ?_
  first
   | rw[show n-(n-1)=1 by omega,y.out _ _ rfl _]
   | rw[y.out _ _ rfl _]
  simp only[Result.andThen_ok];clear y;go_wp2_with fail
  go_ret
  refine⟨rfl,?_⟩;exact H3.out
open Go.RowKit Go.Sl
theorem cells_one (l:List bi):∀v∈l.flatMap bi.cells,v.oneCell'=true:=by
 intro v z;obtain⟨f,_,y⟩:=YP.1 z;simp[bi.cells]at y;rcases y with rfl | rfl | rfl | rfl <;> rfl
theorem xo (A:Option Addr)(n c:Nat)(l:List bi)(w w0:World)(S:ba)(m:Mod w w0 S)(r:du S A n l)(hn:n<=100000000) :
 Calls Tryz.prog 91 #[.slice A n c] w fun e I=>∃A' c',e=.returned (.slice A' n c')/\Mod I w0 (ar 44 4 (.slice A' n c') n (l.flatMap bi.cells)*S):=by
 have R:=zbj r;have z:Tryz.prog.underlying 40=some (.slice 44):=kRf
 have O:=fun(w:World)=>Lib.run_eql_slice_nil (P:=Tryz.prog) w 40 44 A n c 0 0 z;clear z
 cases A with
 | none =>
   have K:n=0:=by
    rcases YD n with h | h
    ·exact h
    ·obtain⟨b,o,M⟩:=j8 m r h
     cases M
   subst K;have V:l=[]:=Zo r.len;subst V;clear r;go_enter Tryz.func91,Tryz.ntmps91
   go_wp2_with fail
   go_ret
   exact⟨none,0,rfl,⟨m.os,m.tape,m.output,by rw[bo];exact⟨_,_,Hp.nK _,(Hp.join_none _).symm,gM _ _,m.says⟩⟩⟩
 | some ad =>
   clear r;obtain⟨g,U⟩:∃g,w.heap.size=g:=⟨_,rfl⟩;have y:Mod (w.alloc (.cells #[] 44)) w0 (aE w.heap.size (.cells #[] 44 (0,0))*S):=Mod.alloc (m:=m) _;rw[U]at y;have B:=me (size:=4) (n:=0) (c:=0) (xs:=[]) y (Zm _) (by unfold maxLen;omega) rfl rfl rfl;have J:=zbj B;clear y B;go_enter Tryz.func91,Tryz.ntmps91
   go_wp2_with (at_builtin;refine Hid.out ?_)
   refine zbj ?_;refine se (n:=0) (xs:=[]) (k:=n) (c:=c) (A:=some ad) rfl rfl J.out rfl rfl R.out.cells (cells_one l) (by unfold maxLen;omega) (by show (0+n)*48≤_;omega) ?_;intro A' c' I E;go_wp2_with fail
   go_ret
   rw[ZM]at E;exact⟨A',c',rfl,E⟩
theorem yT (A:Option Addr)(n c:Nat)(z:∀ad,A=some ad->ad.spot=none)(y:A=none->n=0/\c=0)(hn:n<=c)(I:c<=maxLen)(w:World) :
 Calls Tryz.prog 90 #[.slice A n c] w fun e B=>e=.returned (.slice A n n)/\B=w:=by
 have E:(n:Int)<=(c:Int):=oMg
 cases A with
 | none =>
   obtain⟨rfl,rfl⟩:=y rfl;go_enter Tryz.func90,Tryz.ntmps90
   go_wp2_with fail
   go_ret
   exact⟨rfl,rfl⟩
 | some ad =>
   obtain⟨g,o,J⟩:=ad;have h:=z _ rfl;simp only at h;subst h;clear z y;go_enter Tryz.func90,Tryz.ntmps90
   go_wp2_with fail
   go_ret
   exact⟨rfl,rfl⟩
open Go.RowKit Go.Sl Go.Sort Go.Shelf Go.Lib
theorem Jq (l:List bi):(l.flatMap bi.cells).length=l.length*4:=by
 induction l with
 | nil=>rfl
 | cons x l y=>rw[Zp,Ze,y];simp[bi.cells];omega
theorem KF (A:Option Addr)(n c:Nat)(l:List bi)(V:l.length=n)(hn:n<=1000000000)(w w0:World)(F:ba)(m:Mod w w0 (ar 44 4 (.slice A n c) n (l.flatMap bi.cells)*F)) :
 Calls Tryz.prog 187 #[.slice A n c,.func (.func 188) #[] #[]] w fun e J=>e=.returned (.tuple #[])/\∃y:List bi,y.Perm l/\yy y/\Mod J w0 (ar 44 4 (.slice A n c) n (y.flatMap bi.cells)*F):=by
 subst V;rcases YD l.length with h | h
 ·have z:=Zo h
  subst z;refine Calls.mono (AnyF.slices_SortFunc_none Tryz.sortF A c (.func (.func 188) #[] #[]) w) ?_;rintro e J ⟨rfl,rfl⟩;exact⟨rfl,[],X9 _,List.Pairwise.nil,m⟩
 ·obtain⟨g,cs,rfl,M,z,h3,O,U,Z⟩:=py m h
  refine(Hh g c l cs oMg U hn w w0 F Z).mono ?_;rintro e J ⟨rfl,y,K,hp,Y,E,I,m2⟩;have B:=hp.length_eq;exact⟨rfl,y,hp,Y,me m2 M z (by rw[E,O]) (by rw[Jq,B]) I⟩
def NO (S:ba)(w0:World)(e:Ending)(y:World):Option (List bi)->Prop
 | none=>e=.returned (.tuple #[.slice none 0 0,.int .i64 1])/\Mod y w0 S
 | some l=>∃A c,e=.returned (.tuple #[.slice A l.length l.length,.int .i64 0])/\l.length<=c/\Mod y w0 (ar 44 4 (.slice A l.length c) l.length (l.flatMap bi.cells)*S)
theorem Ct {w w0:World}{e size:Nat}{A:Option Addr}{n c:Nat}{xs:List Value}{F:ba}(m:Mod w w0 (ar e size (.slice A n c) n xs*F)):(∀ad,A=some ad->ad.spot=none)/\(A=none->n=0/\c=0)/\n<=c/\c<=maxLen:=by
 have h:=m.says;rw[bo]at h;obtain⟨a,b,U,V,⟨Z,J⟩,Y⟩:=h;rcases J with⟨B,O,_⟩ | ⟨g,cap,I,B,K,M,_⟩
 ·injection B with y E z
  subst y E z;exact⟨fun ad h=>(by cases h),fun _=>⟨rfl,rfl⟩,Zm _,by unfold maxLen;omega⟩
 ·injection B with y E z
  subst y z;exact⟨fun ad h=>(by injection h with h;subst h;rfl),fun h=>(by cases h),K,M⟩
theorem xw:∀(l:List bi)(k:Nat),k<l.length->(l.flatMap bi.cells).take (k*4)++(l.flatMap bi.cells).drop ((k+1)*4)=(l.eraseIdx k).flatMap bi.cells
 | [],_,h=>by simp at h
 | x::l,0,_=>by
   have e:x.cells.length=4:=rfl;rw[Zp,za8];simp[e]
 | x::l,k+1,h=>by
   have e:x.cells.length=4:=rfl;have y:=xw l k (by simpa using h);rw[Zp,List.eraseIdx_cons_succ,Zp,<-y,zaq,za8,e,Zn (by rw[e];omega),zaa (by rw[e];omega),show (k+1)*4-4=k*4 by omega,show (k+1+1)*4-4=(k+1)*4 by omega,List.nil_append,Zr]
theorem DM (i:Nat)(z:Int)(E:z=((i+1:Nat):Int))(A:Option Addr)(n c:Nat)(xs:List Value)(B:i<n)(hn:n<=1000000000)(y:∀v∈xs,v.oneCell'=true)(w w0:World)(F:ba)(m:Mod w w0 (ar 44 4 (.slice A n c) n xs*F)) :
 Calls Tryz.prog 186 #[.slice A n c,.int .i64 (i:Int),.int .i64 z] w fun e I=>e=.returned (.slice A (n-1) c)/\Mod I w0 (ar 44 4 (.slice A (n-1) c) (n-1) (xs.take (i*4)++xs.drop ((i+1)*4))*F):=by
 subst E;exact CT i A n c xs B hn y w w0 F m
theorem y8 (A:Option Addr)(n c:Nat)(l:List bi)(aA:Option Addr)(U aC:Nat)(rA:Option Addr)(O rC:Nat)(J:List bi)(M:List Nat)(jn nx sq:Nat)(w w0:World)(S:ba)(m:Mod w w0 S)(r:du S A n l)(hn:n<=100000000)(ra:du S aA U J)(aO:U<=1100000)(rr:ku S rA O M)(aQ:O<=1100000) :
 Calls Tryz.prog 122 #[.slice A n c,.agg #[.slice aA U aC,.slice rA O rC,.int .u32 (jn:Int),.int .u32 (nx:Int),.int .u64 (sq:Int)]] w fun e w'=>NO S w0 e w' (FT l ⟨J,M,jn,nx,sq⟩):=by
 obtain⟨z,hz⟩:∃z,FT l ⟨J,M,jn,nx,sq⟩=z:=⟨_,rfl⟩;rw[hz];unfold FT at hz;simp only at hz;have HZ:=zbj hz;have R:=zbj r;have RA:=zbj ra;have RR:=zbj rr;clear hz r ra rr;have HF:=zbj (fun(u:World)(B:ba)(hh:Sub B S)(Z:Mod u w0 B)=>uq A n c l u w0 B Z (R.out.lift hh) oMg);have HA:=zbj (fun(u:World)(B:ba)(hh:Sub B S)(Z:Mod u w0 B)=>uq aA U aC J u w0 B Z (RA.out.lift hh) oMg);have HT:=zbj (fun(u:World)(B:ba)(hh:Sub B S)(Z:Mod u w0 B)=>xx A n c l u w0 B Z (R.out.lift hh) oMg);have HC:=zbj (fun(u:World)(B:ba)(hh:Sub B S)(Z:Mod u w0 B)=>xo A n c l u w0 B Z (R.out.lift hh) oMg);have mA:Mod (w.alloc (.cells #[.slice aA U aC,.slice rA O rC,.int .u32 (jn:Int),.int .u32 (nx:Int),.int .u64 (sq:Int)] 130)) w0 _:=Mod.alloc (m:=m) _
 cases h1:kh l with
 | false =>
   have V:Hid (z=none):=by show _=_;rw[<-HZ.out,if_pos (.inl h1)]
   rw[h1]at HF;clear h1;go_enter Tryz.func122,Tryz.ntmps122
   go_wp2_with (go_at_call 178;refine(HF.out _ _ zbk mA).mono ?_;rintro e w1 ⟨rfl,m1⟩)
   go_ret2
   rw[V.out];exact⟨rfl,Mod.keep m1⟩
 | true =>
   rw[h1]at HF
   cases h2:kh J with
   | false =>
     have V:Hid (z=none):=by show _=_;rw[<-HZ.out,if_pos (.inr (.inl h2))]
     rw[h2]at HA;clear h1 h2;go_enter Tryz.func122,Tryz.ntmps122
     have E:=True.intro
     go_wp2_with first
      | (go_at_call 178;clear E;refine(HF.out _ _ zbk mA).mono ?_;rintro e w1 ⟨rfl,m1⟩)
      | (go_at_call 178;refine(HA.out _ _ zbk m1).mono ?_;rintro e w2 ⟨rfl,m2⟩)
     go_ret2
     rw[V.out];exact⟨rfl,Mod.keep m2⟩
   | true =>
     rw[h2]at HA
     cases h3:jU l with
     | true =>
       have V:Hid (z=none):=by show _=_;rw[<-HZ.out,if_pos (.inr (.inr h3))]
       rw[h3]at HT;clear h1 h2 h3;go_enter Tryz.func122,Tryz.ntmps122
       have E:=True.intro
       go_wp2_with first
        | (go_at_call 178;clear E;refine(HF.out _ _ zbk mA).mono ?_;rintro e w1 ⟨rfl,m1⟩)
        | (go_at_call 178;refine(HA.out _ _ zbk m1).mono ?_;rintro e w2 ⟨rfl,m2⟩)
        | (go_at_call 183;refine(HT.out _ _ zbk m2).mono ?_;rintro e w3 ⟨rfl,m3⟩)
       go_ret2
       rw[V.out];exact⟨rfl,Mod.keep m3⟩
     | false =>
       rw[h3]at HT
       have av:Hid (z=match jg l M with | none=>none | some l1=>if jU (l1++J)=true then none else some (ei (l1++J))):=by
        show _=_;rw[<-HZ.out,if_neg (by rw[h1,h2,h3];simp)];first | done | (cases jg l M <;> rfl)
       clear HZ h1 h2 h3;obtain⟨gx,ah⟩:∃gx,w.heap.size=gx:=⟨_,rfl⟩;rw[ah]at mA;go_enter Tryz.func122,Tryz.ntmps122
       have E:=True.intro
       go_wp2_with first
        | (go_at_call 178;clear E;refine(HF.out _ _ zbk mA).mono ?_;rintro e w1 ⟨rfl,m1⟩)
        | (go_at_call 178;refine(HA.out _ _ zbk m1).mono ?_;rintro e w2 ⟨rfl,m2⟩)
        | (go_at_call 183;refine(HT.out _ _ zbk m2).mono ?_;rintro e w3 ⟨rfl,m3⟩)
        | (go_at_call 91;refine(HC.out _ _ zbk m3).mono ?_;rintro e w4 ⟨A4,c4,rfl,m4⟩)
       have aL:=zbj ah;clear ah HF HA HT HC m1 m2 m3;go_loopg [0,27] O (fun gk v0 iv wr=>∃(i:Nat)(Ai:Option Addr)(I ci:Nat)(y:List bi),i<=O/\gk=O-i/\iv=.int .i64 (i:Int)/\v0=.slice Ai I ci/\I<=n/\Hid (y.length=I)/\Hid (jg l M=jg y (M.drop i))/\Mod wr w0 (ar 44 4 (.slice Ai I ci) I (y.flatMap bi.cells)*(aE gx (.cells #[.slice aA U aC,.slice rA O rC,.int .u32 (jn:Int),.int .u32 (nx:Int),.int .u64 (sq:Int)] 130 (0,0))*S)))
       case atStart=>exact⟨0,A4,n,c4,l,Zv _,rfl,rfl,rfl,Zm _,R.out.len,rfl,m4⟩
       case round =>
        obtain⟨i,Ai,I,ci,y,hi,aM,rfl,rfl,aP,Hl,Hd,m5⟩:=hrel;by_cases ak:i<O
        ·have aK:(i:Int)<(O:Int):=oMg
         have az:i<M.length:=by rw[RR.out.len];exact ak
         obtain⟨b,o,rfl⟩:=wQ m5 (RR.out.lift zbk) ak;have c0:=GG RR.out az;have ay:M.drop i=M[i]::M.drop (i+1):=Ya az;generalize M[i]=v at *;have au:=zbj ay;clear ay;have rf:du (ar 44 4 (.slice Ai I ci) I (y.flatMap bi.cells)) Ai I y:=⟨Hl.out,fh (by decide)⟩;have HI:=zbj (fun(u:World)(B:ba)(Z:Mod u w0 B)(p:Nat)(hp:jq B p (.cells #[.int .u32 (v:Int)] 42 (0,0)))(sb:Sub B (ar 44 4 (.slice Ai I ci) I (y.flatMap bi.cells)))=>Bo p v Ai I ci y u w0 B Z hp (rf.lift sb) oMg);clear rf
         cases K:y.findIdx? (fun f=>decide (f.num=v))with
         | none =>
           have Y:ko (fun f=>decide (f.num=v)) y = -1:=by unfold ko;rw[K]
           have ae:Hid (z=none):=by
            show _=_;rw[av.out,Hd.out,au.out];simp only[jg,K]
           rw[Y]at HI;clear Y K;go_wp2_with (go_at_call 184;refine(HI.out _ _ (Mod.alloc (m:=m5) _) _ zbk zbk).mono ?_;rintro e w6 ⟨rfl,m6⟩)
           (try rw[Exit.noGoto_ret])
           go_ret2
           rw[ae.out];exact⟨rfl,Mod.keep m6⟩
         | some k =>
           have Y:ko (fun f=>decide (f.num=v)) y=(k:Int):=by unfold ko;rw[K]
           have hk:k<I:=by rw[<-Hl.out];exact(Zk.1 K).1
           have aH:Hid (jg l M=jg (y.eraseIdx k) (M.drop (i+1))):=by
            show _=_;rw[Hd.out,au.out];simp only[jg,K]
           have aI:Hid ((y.eraseIdx k).length=I-1):=by show _=_;rw[List.length_eraseIdx,if_pos (by rw[Hl.out];exact hk),Hl.out]
           have aG:=zbj (xw y k (by rw[Hl.out];exact hk));have aJ:=zbj (cells_one y);have aN:¬(k:Int)<0:=oMg
           rw[Y]at HI;clear Y K;have E:=True.intro
           go_wp2_with first
            | (go_at_call 184;clear E;refine(HI.out _ _ (Mod.alloc (m:=m5) _) _ zbk zbk).mono ?_;rintro e w6 ⟨rfl,m6⟩)
            | (go_at_call 186;refine(DM k _ oMg Ai I ci _ hk oMg aJ.out _ w0 _ (Mod.pull (m:=m6) (ar 44 4 (.slice Ai I ci) I (y.flatMap bi.cells)))).mono ?_;rintro e w7 ⟨rfl,m7⟩)
           rw[aG.out]at m7;go_roundg (O-(i+1))
           case measure=>omega
           case rel=>exact⟨i+1,Ai,I-1,ci,y.eraseIdx k,ak,rfl,by go_num,rfl,oMg,aI,aH,Mod.keep m7⟩
        ·have aK:¬(i:Int)<(O:Int):=oMg
         have ae:Hid (z=if jU (y++J)=true then none else some (ei (y++J))):=by
          show _=_;rw[av.out,Hd.out,zaa (by have:=RR.out.len;omega)];rfl
         have ax:bk (aE gx (.cells #[.slice aA U aC,.slice rA O rC,.int .u32 (jn:Int),.int .u32 (nx:Int),.int .u64 (sq:Int)] 130 (0,0))*S) aA (U*4) (J.flatMap bi.cells):=ct zbk RA.out.cells;have aF:=zbj ax;clear ax;go_wp2_with (at_builtin;refine Hid.out ?_)
         refine zbj ?_;refine se (n:=I) (k:=U) (c:=aC) (A:=aA) rfl rfl m5 rfl rfl aF.out (cells_one J) (by unfold maxLen;omega) (by show (I+U)*48≤_;omega) ?_;intro A7 c7 w7 m7;rw[<-Z4]at m7;have ai:(y++J).length=I+U:=by rw[Ze,Hl.out,RA.out.len]
         obtain⟨p1,p2,p3,p4⟩:=Ct m7;obtain⟨q,hq⟩:∃q,I+U=q:=⟨_,rfl⟩;rw[hq]at m7 ai p2 p3 ⊢;have aR:q<=200000000:=oMg
         have af:=zbj ai;clear hq ai;have aa:=zbj (fun(u:World)(B:ba)(Z:Mod u w0 B)(sb:Sub B (ar 44 4 (.slice A7 q c7) q ((y++J).flatMap bi.cells)))=>xx A7 q c7 (y++J) u w0 B Z ⟨af.out,ct sb (fh (by decide))⟩ oMg)
         cases ht:jU (y++J)with
         | true =>
           rw[ht]at aa;have ag:Hid (z=none):=by show _=_;rw[ae.out,if_pos ht]
           clear ht;go_wp2_with (go_at_call 183;refine(aa.out _ _ m7 zbk).mono ?_;rintro e w8 ⟨rfl,m8⟩)
           go_ret2
           rw[ag.out];exact⟨rfl,Mod.keep m8⟩
         | false =>
           rw[ht]at aa;have ag:Hid (z=some (ei (y++J))):=by show _=_;rw[ae.out,if_neg (by rw[ht];decide)]
           have Ht:=zbj ht;clear ht
           go_wp2_with first
            | (go_at_call 183;refine(aa.out _ _ m7 zbk).mono ?_;rintro e w8 ⟨rfl,m8⟩)
            | (go_at_call 187;refine(KF A7 q c7 (y++J) af.out oMg _ w0 _ m8).mono ?_;rintro e w9 ⟨rfl,l9,aB,aD,m9⟩;have H9:=zbj (Hi aB aD Ht.out);clear aB aD)
            | (go_at_call 90;refine(yT A7 q c7 p1 p2 p3 p4 _).mono ?_;rintro e aS ⟨rfl,rfl⟩)
           go_ret2
           have aj:(ei (y++J)).length=q:=by rw[<-af.out];exact(YI _ _).length_eq
           rw[ag.out];rw[H9.out]at m9;refine⟨A7,c7,?_,?_,?_⟩
           ·rw[aj];rfl
           ·rw[aj];exact p3
           ·rw[aj];exact Mod.keep m9
end Go.Proofs.YtdfppjcaelghhaaGreatDoor
