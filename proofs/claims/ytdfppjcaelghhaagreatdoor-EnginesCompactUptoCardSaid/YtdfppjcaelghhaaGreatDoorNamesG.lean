/- Plain lemmas and contracts; the conditions are in each. -/
import Derived.BigQuiet
import Derived.Deep.QuietTactic
import Derived.Deep.RegionHeld3
import Derived.Laws.BytesArg
import Derived.Laws.IdiomStrings
import Derived.Laws.MakeOwn
import Derived.Lib.SmallJoins
import Derived.OpenShut
import Derived.ProofKit
import Derived.SizedLaws
import Derived.Test.YtdfppjcaelghhaaGreatDoorDiskG
import Derived.Test.YtdfppjcaelghhaaGreatDoorFacts
import Derived.Test.YtdfppjcaelghhaaGreatDoorIter
set_option maxHeartbeats 1000000
set_option maxRecDepth 100000
namespace Go.Proofs.YtdfppjcaelghhaaGreatDoor
open Go.RowKit Go.Sl Go.Maps
attribute [local go_sem] ab bh bd
def e8 (D:aq):List (List UInt8):=(D.now.map (·.1.data.toList)).mergeSort leB
theorem tT (D:aq):(e8 D).length=D.now.length:=by unfold e8;rw[List.length_mergeSort,ZW]
theorem nJ {s:ByteArray}(h:eo s=true):s.size<=16:=by
 unfold eo at h;simp only[Yg,decide_eq_true_eq]at h;exact h.1.2
theorem tz (p:Nat)(D:aq)(w w0:World)(S F:ba)(m:Mod w w0 S)(t:eM S (bv p) D F) :
 Calls Tryz.prog 50 #[.pointer (some ⟨p,0,none⟩)] w fun e X=>∃B c,e=.returned (.slice B (e8 D).length c)/\Mod X w0 (ar 9 1 (.slice B (e8 D).length c) (e8 D).length ((e8 D).map encStr)*S):=by
 obtain⟨rn,rs,J,m1⟩:=ie m t;have M:(0:Int)<D.size:=by have:=J.pos;omega
 have aa:(js D.now).length<=64:=by rw[js,tU];exact J.many
 obtain⟨D0,K,y,z⟩:=Kh (P:=Tryz.prog) (k:=9) (r:=rn) (L:=js D.now) m1 zbk (by kernel_rfl) (fun q hq=>by
  obtain⟨q0,Z,rfl⟩:=Zz.1 hq;have:=nJ (J.named q0 Z);show q0.1.size<=maxLen
  unfold maxLen;omega) (by unfold maxLen;omega)
 have I:=zbj y;clear y;go_enter Tryz.func50,Tryz.ntmps50
 go_wp2_with first
  | (go_at_call 93;refine(rW p D.size _ _ _ w0 _ M).mono ?_;rintro e X ⟨rfl,rfl⟩)
  | (go_at_call 99;refine(callsIn_wide.1 (Tryz.maps_Keys_99 _ _)).mono ?_;rintro e X ⟨rfl,rfl⟩)
  | (go_at_call 98;refine(callsIn_wide.1 (Tryz.slices_Sorted_keys_98_99 rn _ D0 _ w K (by rw[z];unfold maxLen;omega) (by rw[z];omega))).mono ?_;rintro e X ⟨v,V,rfl,hS,O,ae,hb⟩)
 go_ret
 have hp:V.Perm (D.now.map (·.1.data.toList)):=by
  refine(hS.trans I.out).trans ?_;rw[js,ly,Yw];exact X9 _
 have E:V.mergeSort leB=e8 D:=mergeSort_of_perm hp;have hl:V.length=(e8 D).length:=by rw[<-E,List.length_mergeSort]
 have ma:Mod (w.alloc (.cells #[.map (some rn)] 89)) w0 (aE w.heap.size (.cells #[.map (some rn)] 89)*S):=Mod.alloc (m:=m) (hn:=⟨rfl⟩) _;have U:=(Mod.Mq (Mod.drop (m:=ma)) rfl hb O)
 have hv:∃B c,v=.slice B V.length c:=by
  rcases (fW U).2 with⟨Y,h2⟩ | ⟨g,cap,af,Y,_⟩
  ·exact⟨none,0,by rw[Y,h2]⟩
  ·exact⟨_,_,Y⟩
 obtain⟨B,c,rfl⟩:=hv;rw[hl]at U ⊢;rw[E]at U;exact⟨B,c,rfl,U⟩
open Go.RowKit Go.Sl
def kept (keep:Nat)(f:dr):dr:=⟨f.bytes.take (f.sure+min keep (f.bytes.length-f.sure)),f.sure+min keep (f.bytes.length-f.sure)⟩
theorem C7 {α:Type}{L:List (ByteArray×α)}{s:ByteArray}(h:s ∉ L.map (·.1)):br L s=none:=by
 unfold br
 have y:L.find? (fun p=>decide (p.1=s))=none:=Y9.2 fun p hp=>by
  simp only[decide_eq_true_eq];exact fun e=>h (by rw[<-e];exact ZC hp)
 rw[y];rfl
theorem Bk:∀(T:ep)(g:Nat),cw T g=none->g ∉ T.map (·.1)
 | [],_,_=>by simp
 | p::l,g,h=>by
   unfold cw at h;by_cases hp:p.1=g
   ·rw[if_pos hp]at h;cases h
   ·rw[if_neg hp]at h
    simp only[Zy,Zu,not_or];exact⟨fun e=>hp e.symm,Bk l g h⟩
def OX (g:Nat)(s:ByteArray)(cap:Nat)(e:TypeId)(fr:Nat×Nat):ba:=aE g (.cells (bytesRow s cap) e fr)
instance (priority:=2000) OE {w w0:World}{S:ba}{n cap:Nat}{s:ByteArray}{e:TypeId}{fr:Nat×Nat} [hn:lY w n] [m:Mod w w0 S]:Mod (w.alloc (.cells (bytesRow s cap) e fr)) w0 (OX n s cap e fr*S):=Mod.alloc (m:=m) (hn:=hn) _
theorem td (s:ByteArray):s.data.toList.length=s.size:=by rw[Array.length_toList];rfl
instance bk.str (g:Nat)(s:ByteArray)(cap:Nat)(e:TypeId)(fr:Nat×Nat):bk (OX g s cap e fr) (some ⟨g,0,none⟩) s.size (b7 s.data.toList) :=
 ⟨fun _ _=>by rw[fg,td],fun h z _=>by
   refine⟨_,rfl,rfl,fun j u y=>⟨bytesRow s cap,e,fr,by rw[show h=Hp.one g (.cells (bytesRow s cap) e fr)from z];simp[Hp.one],?_⟩⟩
   have B:j<s.data.size:=by
    have:=(Yd.1 y).1;rw[fg,Array.length_toList]at this;exact this
   simp only[ZM];unfold bytesRow;rw[XL (by simpa using B)];simp only[b7,Yc,ZG]at y
   simpa using y⟩
theorem CS (w:World)(s:ByteArray):(convert 9 67 (.string s)).run Tryz.prog w=.ok (.slice (some ⟨w.heap.size,0,none⟩) s.size (grownCap w s.size 0 5))
 (w.drew.alloc (.cells (bytesRow s (grownCap w s.size 0 5)) 5 ((bytesRow s (grownCap w s.size 0 5)).size,(bytesRow s (grownCap w s.size 0 5)).size+1))) :=
 run_bytes_of_string w _ _ _ s (by kernel_rfl) (by kernel_rfl) (by kernel_rfl)
theorem tu {w w0:World}{S:ba}{B:Option Addr}{n c:Nat}{l:List UInt8} [m:Mod w w0 S] [r:bk S B n (b7 l)]:(convert 67 9 (.slice B n c)).run Tryz.prog w=.ok (.string ⟨l.toArray⟩) w:=by
 have y:=fp m r;rw[fg]at y
 cases B with
 | none =>
   have I:n=0:=by
    rcases YD n with h | h
    ·exact h
    ·obtain⟨ad,z,_⟩:=cP m r h;cases z
   subst I;have M:l=[]:=Zo y;subst M;exact run_convert_bytes_nil w 67 5 (by kernel_rfl) (by kernel_rfl) 0 c 9 (by kernel_rfl)
 | some ad =>
   subst y;refine run_convert_bytes_back w 67 9 5 ad c l (by kernel_rfl) (by kernel_rfl) (by kernel_rfl) fun j K=>?_;obtain⟨E,z,hs,J⟩:=cP m r (by omega);injection z with z;subst z;rw[jl ad j hs];exact J j _ (by simp[b7,K])
theorem It:∃i,Tryz.prog.info? 5=some i/\i.zero=some (.int .u8 0)/\i.size=1/\i.bytes=1:=by
 have h:(Tryz.prog.info? 5).map (fun i=>(i.zero,i.size,i.bytes))=some (some (.int .u8 0),1,1):=by kernel_rfl
 obtain⟨i,E,B⟩:=Xk.1 h;injection B with z y;injection y with y h3;exact⟨i,E,z,y,h3⟩
attribute [local go_sem] tu
section
variable (p:Nat)(D:aq)(name:ByteArray)(w w0:World)(S F:ba)(m:Mod w w0 S)(t:eM S (bv p) D F)(hs:name.size<=9223372036854775807)
include m t hs
end
theorem toList_inj {x y:ByteArray}(h:x.toList=y.toList):x=y:=by
 rw[ByteArray.toList_eq,ByteArray.toList_eq]at h;have z:x.data=y.data:=YY.1 h;cases x;cases y;exact congrArg _ z
abbrev pT (l:List ByteArray):List Value:=l.map Value.string
theorem px {w w0:World}{S:ba}{B:Option Addr}{n:Nat}{l:List ByteArray}(m:Mod w w0 S)(r:bk S B n (pT l))(hn:0<n) :
 ∃b o,B=some ⟨b,o,none⟩/\∀j (h:j<l.length),w.cell? ⟨b,o+j,none⟩=some (.string l[j]):=by
 obtain⟨ad,y,hs,z⟩:=cP m r hn;obtain⟨b,o,E⟩:=ad;simp only at hs;subst hs;exact⟨b,o,y,fun j h=>z j _ (by simp[pT,h])⟩
def AK:List ByteArray->Nat
 | []=>0
 | s::l=>s.size+AK l
theorem J7 (s:ByteArray):eo s=(!s.data.toList.isEmpty&&decide (s.size<=16)&&(Lib.trimS s.data.toList kS).isEmpty):=by
 unfold eo;rw[ByteArray.toList_eq,ByteArray.toList_eq]
theorem ce {F:ba}{g n:Nat}{cs:Array Value}{e:TypeId}{fr:Nat×Nat}{xs:List Value} [h:jq F g (.cells cs e fr)](B:cs.toList=xs)(hn:xs.length=n):bk F (some ⟨g,0,none⟩) n xs :=
 ⟨fun _ _=>hn,fun x z _=>⟨_,rfl,rfl,fun j u y=>⟨cs,e,fr,h.has x z,by rw[<-B]at y;simpa using y⟩⟩⟩
open Go.RowKit Go.Sl
attribute [local go_sem] ab bh bd tu
def one (n:Nat)(name:ByteArray)(g:Nat)(f:dr)(s:qP):aq:=⟨n,[(name,g)],s,[(g,f)]⟩
section
variable {n:Nat}{a b:ByteArray}{g h:Nat}{f f':dr}{s:qP}
end
theorem Lq:∀(T:ep)(g:Nat)(f:dr),(T.map (·.1)).Nodup->(g,f)∈T->cw T g=some f
 | [],_,_,_,h=>by cases h
 | p::l,g,f,hn,h=>by
   simp only[Zy,Yq]at hn;unfold cw;rcases Zu.1 h with h | h
   ·rw[<-h,if_pos rfl]
   ·rw[if_neg (fun e=>hn.1 (by rw[e];exact ZC (f:=(·.1)) h))]
    exact Lq l g f hn.2 h
structure jO (w0:World)(S:ba) where
 world:World
 mod:Mod world w0 S
instance Mod.held {w0:World}{S:ba}(s:jO w0 S):Mod s.world w0 S:=s.mod
theorem jO.some {w w0:World}{S:ba}(m:Mod w w0 S):Nonempty (jO w0 S):=⟨⟨w,m⟩⟩
theorem dy {P:Program}{I:Nat}{Q:Exit->Act->World->Prop}{a:Act}{w w0:World}{S:ba}{l:List Oper}(m:Mod w w0 S)(E:P.follows .mixedOrders=true)(B:Region.lexB .any l.toArray=true)
 (h:wpQuiet P l.toArray (fun y=>∃s:jO w0 S,y=s.world) (fun z=>∀y,(∃s:jO w0 S,y=s.world)->Q .normal z y) l a):(Code.region I l.toArray true).wp P Q a w :=
 wp_region_quiet (C:=fun y=>∃s:jO w0 S,y=s.world) E B ⟨⟨w.drew,Mod.drew (m:=m)⟩,rfl⟩ (by simpa using h)
theorem cW {P:Program}{f:FuncId}{args:Array Value}{w w0:World}{S:ba}{v:Value}(h:Calls P f args w fun e y=>e=.returned v/\Mod y w0 S):Calls P f args w fun e y=>e=.returned v/\∃s:jO w0 S,y=s.world :=
 h.mono fun _ y ⟨z,B⟩=>⟨z,⟨y,B⟩,rfl⟩
open Go.ChangeShapes Go.WideShapes Go.ChangeAt Go.RowKit
theorem uZ:Tryz.prog.cellsOf 9=1:=by kernel_rfl
theorem OZ {k:Int}(h:(Lit.int .u8 k).wf=true):∃n:Nat,k=n/\n<256:=by
 have B:IntKind.u8.min<=k/\k<=IntKind.u8.max:=by simpa [Lit.wf]using h
 have y:IntKind.u8.min=0:=by decide
 have z:IntKind.u8.max=255:=by decide
 rw[y,z]at B;exact⟨k.toNat,by omega,by omega⟩
open Go.RowKit Go.Sl
theorem rY (T:ep):∀(L M:qP),eh T (L++M)=eh T L+eh T M
 | [],_=>by simp[eh]
 | q::L,M=>by simp only[List.cons_append,eh];rw[rY T L M];omega
theorem CC (T:ep){L M:qP}(h:L.Sublist M):eh T L<=eh T M:=by
 induction h with
 | slnil=>exact Zm _
 | cons a _ y=>simp only[eh];omega
 | cons_cons a _ y=>simp only[eh];omega
theorem th (T:ep)(g:Nat)(f':dr):∀(L:qP),g ∉ L.map (·.2)->eh (iS T g f') L=eh T L
 | [],_=>rfl
 | q::L,h=>by
   simp only[Zy,Zu,not_or]at h;simp only[eh];rw[jX T g q.2 f' (fun e=>h.1 e.symm),th T g f' L h.2]
theorem uP (T:ep)(g:Nat)(f:dr):∀(L:qP),g ∉ L.map (·.2)->eh ((g,f)::T) L=eh T L
 | [],_=>rfl
 | q::L,h=>by
   simp only[Zy,Zu,not_or]at h;simp only[eh];rw[uP T g f L h.2,show cw ((g,f)::T) q.2=cw T q.2 from by simp only[cw];rw[if_neg h.1]]
theorem rZ (T:ep)(s:ByteArray)(g:Nat):∀{L:qP},(L.map (·.1)).Nodup->br L s=some g->eh T (cG L s)+((cw T g).map (·.bytes.length)).getD 0=eh T L
 | [],_,h=>by cases h
 | q::L,hk,h=>by
   simp only[Zy,Yq]at hk;by_cases y:q.1=s
   ·have e:cG L s=L:=by
     unfold cG;refine ZR.2 fun p hp=>?_;have:p.1≠s:=fun e=>hk.1 (by rw[y,<-e];exact ZC (f:=(·.1)) hp);simp[this]
    have z:cG (q::L) s=L:=by
     unfold cG at e ⊢;rw[ZQ (by simp[y]),e]
    have B:q.2=g:=by
     unfold br at h;rw[List.find?_cons_of_pos (by simp[y])]at h;injection h
    rw[z];simp only[eh];rw[B];omega
   ·have h':br L s=some g:=by
     unfold br at h ⊢;rw[List.find?_cons_of_neg (by simp[y])]at h;exact h
    have:=rZ T s g hk.2 h';have z:cG (q::L) s=q::cG L s:=by unfold cG;rw[ZZ (by simp[y])]
    rw[z];simp only[eh];omega
def Po (D:aq):Nat:=eh D.files D.now
section
variable (p:Nat)(D:aq)(name:ByteArray)(w w0:World)(S F:ba)(m:Mod w w0 S)(t:eM S (bv p) D F)(hs:name.size<=9223372036854775807)
include m t hs
end
open Go.RowKit Go.Sl Go.Maps
theorem mG {w w0:World}{A X R:ba}(m:Mod w w0 (A*(X*R))):Mod w w0 (A*R):=by
 have:Mod w w0 (X*(A*R)):=Mod.to (m:=m) (cC _ _ _);exact Mod.drop (A:=X)
theorem IJ {w w0:World}{S y G:ba}{z:Type}(B:z->ba){E:z}(m:Mod w w0 S) [O:eM S B E y] [s:Sub y G]:Mod w w0 (B E*G):=by
 rw[O.eq]at m;refine⟨m.os,m.tape,m.output,?_⟩;have h:=m.says;rw[bo]at h ⊢;obtain⟨a,b,I,J,K,M⟩:=h;exact⟨a,b,I,J,K,s.sub _ M⟩
theorem lS {w w0:World}{S:ba}{e:TypeId}(m:Mod w w0 S):Mod w w0 (ar e 1 (.slice none 0 0) 0 []*S):=by
 refine Mod.conv (S:=sC*S) (m:=by rw[b9];exact m) fun _ h=>lF (A:=sC) (fun y z=>?_) h;have z:y=Hp.none:=z;subst z;exact s0 _ _
end Go.Proofs.YtdfppjcaelghhaaGreatDoor
