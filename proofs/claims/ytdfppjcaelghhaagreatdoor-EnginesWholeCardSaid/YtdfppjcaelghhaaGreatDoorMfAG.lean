/- Plain lemmas and contracts; the conditions are in each. -/
import Derived.Lib.AppendIntMem
import Derived.Lib.AtoiErrMem
import Derived.Lib.ItoaMem
import Derived.Lib.ItoaNum
import Derived.Lib.LaidTab
import Derived.Lib.ParseIntB
import Derived.Sort.Grow
import Derived.Test.YtdfppjcaelghhaaGreatDoorEdAG
import Derived.Test.YtdfppjcaelghhaaGreatDoorJourG
import Derived.Test.YtdfppjcaelghhaaGreatDoorMfLay
set_option maxHeartbeats 8000000
set_option maxRecDepth 100000
namespace Go.Sl
open Go
theorem qZ (n:Nat)(h:n<10):(UInt8.ofNat (48+n)).toNat=48+n:=by rw[UInt8.toNat_ofNat'];omega
theorem ul:∀(u:Nat),∀b∈Lib.decDigits u,48<=b.toNat/\b.toNat<=57:=by
 intro u
 induction u using Nat.strongRecOn with
 | _ u z =>
   intro b y;by_cases h:u<10
   ·rw[Lib.decDigits_one h,ZE]at y
    subst y;rw[qZ u h];omega
   ·rw[Lib.decDigits,dif_neg h,ZA,ZE]at y
    rcases y with y | rfl
    ·exact z (u / 10) oMg b y
    ·rw[qZ _ oMg];omega
theorem Jg (u:Nat):Lib.decDigits u≠[]:=by
 intro h;have:=Lib.decDigits_length u;rw[h]at this;have:=Lib.nDigits_pos u;simp at *;omega
theorem z8 (M:Nat)(z:M<=4294967295):∀(l r:List UInt8)(y v:Nat),Lib.parseUintM M y l=.ok v->Lib.parseUintM M y (l++r)=Lib.parseUintM M v r
 | [],r,y,v,h=>by simp only[Lib.parseUintM,Lib.NumEnd.ok.injEq]at h;subst h;rfl
 | c::l,r,y,v,h=>by
   rw[List.cons_append];simp only[Lib.parseUintM]at h ⊢
   split at h
   ·rename_i hc
    rw[if_pos hc]
    split at h
    ·cases h
    ·rename_i h1
     rw[if_neg h1]
     split at h
     ·cases h
     ·rename_i h2
      rw[if_neg h2];exact z8 M z l r _ v h
   ·cases h
theorem Dg (M:Nat)(y:M<=4294967295):∀(u:Nat),u<=M->Lib.parseUintM M 0 (Lib.decDigits u)=.ok u:=by
 intro u
 induction u using Nat.strongRecOn with
 | _ u z =>
   intro B;by_cases h:u<10
   ·rw[Lib.decDigits_one h]
    have e:=qZ u h;simp only[Lib.parseUintM,e];rw[if_pos oMg,if_neg oMg,if_neg oMg]
    congr 1;omega
   ·rw[Lib.decDigits,dif_neg h,z8 M y _ _ _ _ (z (u / 10) oMg oMg)]
    have e:=qZ (u%10) oMg;simp only[Lib.parseUintM,e];rw[if_pos oMg,if_neg oMg,if_neg oMg]
    congr 1;omega
theorem sW (u:Nat)(y:u<4294967296):Lib.parseUintB 32 (Lib.decDigits u)=.ok u:=by
 unfold Lib.parseUintB;rw[if_neg (Jg u)];exact Dg _ (by decide) u (by show u<=2 ^ 32-1;omega)
theorem yY {u v:Nat}(z:u<4294967296)(B:v<4294967296)(h:Lib.decDigits u=Lib.decDigits v):u=v:=by
 have y:=sW u z;rw[h,sW v B]at y;exact(Lib.NumEnd.ok.inj y).symm
theorem l6 {u:Nat}(B:u<4294967296):(Lib.decDigits u).length<=10:=by
 rw[Lib.decDigits_length]
 have step:∀(k u:Nat),u<10 ^ (k+1)->Lib.nDigits u<=k+1:=by
  intro k
  induction k with
  | zero=>intro u h;rw[Lib.nDigits_small (by simpa using h)];omega
  | succ k z =>
    intro u h;by_cases y:u<10
    ·rw[Lib.nDigits_small y];omega
    ·rw[Lib.nDigits_big y]
     have:=z (u / 10) (by rw[Nat.pow_succ]at h;omega);omega
 have:=step 9 u oMg;omega
end Go.Sl
namespace Go.Proofs.YtdfppjcaelghhaaGreatDoor
open Go Go.Sl
theorem k9 {α:Type}(p:ByteArray×α)(L:List (ByteArray×α))(t:ByteArray):br (p::L) t=if p.1=t then some p.2 else br L t:=by
 unfold br;rw[List.find?_cons];by_cases h:p.1=t <;> simp[h]
theorem lw {α:Type}(P:ByteArray->Bool)(L:List (ByteArray×α))(t:ByteArray):br (L.filter fun q=>P q.1) t=if P t=true then br L t else none:=by
 induction L with
 | nil=>simp[br]
 | cons p L y =>
   rw[YZ];by_cases hp:P p.1=true
   ·rw[if_pos hp,k9,k9,y]
    by_cases ht:p.1=t
    ·subst ht;rw[if_pos rfl,if_pos rfl,if_pos hp]
    ·rw[if_neg ht,if_neg ht]
   ·rw[if_neg hp,y,k9]
    by_cases ht:p.1=t
    ·subst ht;rw[if_neg hp,if_neg hp]
    ·rw[if_neg ht]
theorem lD {α:Type}(L:List (ByteArray×α))(s t:ByteArray):br (cG L s) t=if t=s then none else br L t:=by
 unfold cG;rw[lw (fun x => !decide (x=s))];by_cases h:t=s <;> simp[h]
theorem J5 {α:Type}(L:List (ByteArray×α))(s t:ByteArray)(v:α):br (L.map fun p=>if p.1=s then (p.1,v)else p) t=if t=s then (br L s).map (fun _=>v)else br L t:=by
 induction L with
 | nil=>simp[br]
 | cons p L z =>
   rw[Zy,k9,z,k9,k9];by_cases hp:p.1=s
   ·by_cases ht:t=s
    ·subst ht;simp[hp]
    ·have:¬s=t:=fun e=>ht e.symm
     simp[hp,ht,this]
   ·by_cases ht:t=s
    ·subst ht;simp[hp]
    ·by_cases y:p.1=t
     ·simp[ht,y]
     ·simp[hp,ht,y]
theorem fN {α:Type}(L:List (ByteArray×α))(s t:ByteArray)(v:α):br (cV L s v) t=if t=s then some v else br L t:=by
 unfold cV
 split
 ·rename_i h
  rw[J5]
  split
  ·obtain⟨q,I,y⟩:=Yb.1 h
   have y:q.1=s:=by simpa using y
   have:∃x,br L s=some x:=by
    cases E:br L s with
    | some x=>exact⟨x,rfl⟩
    | none=>exact absurd y (ot E q I)
   obtain⟨x,J⟩:=this;rw[J];rfl
  ·rfl
 ·rename_i h
  have hn:br L s=none:=C7 fun E=>h (by
   obtain⟨q,I,y⟩:=Zz.1 E
   exact Yb.2 ⟨q,I,by simp[y]⟩)
  have B:∀(L:List (ByteArray×α)),br L s=none->br (L++[(s,v)]) t=if t=s then some v else br L t:=by
   intro L
   induction L with
   | nil=>intro _;rw[List.nil_append,k9];by_cases ht:t=s <;> simp[ht,br];intro e;exact absurd e.symm ht
   | cons p L K =>
     intro z;rw[k9]at z;by_cases hp:p.1=s
     ·rw[if_pos hp]at z;cases z
     ·rw[if_neg hp]at z
      rw[List.cons_append,k9,k9,K z];by_cases ht:t=s
      ·subst ht;simp[hp]
      ·rw[if_neg ht,if_neg ht]
  exact B L hn
theorem B8:∀(T:ep)(g:Nat)(f y:dr),iS (iS T g f) g y=iS T g y
 | [],_,_,_=>rfl
 | p::l,g,f,y=>by
   by_cases hp:p.1=g
   ·simp[iS,hp]
   ·simp[iS,hp,B8 l g f y]
def nM:ByteArray:=⟨#[109]⟩
def fY:ByteArray:=⟨#[109,45,110,101,119]⟩
def cD (n:Nat):ByteArray:=⟨(109::45::Lib.decDigits n).toArray⟩
def gc (s:ByteArray):Bool:=Lib.hasPrefix s.data.toList [109]
theorem pj {l:List UInt8}(y:l≠[])(z:l.length<=16)(B:∀b∈l,kS.contains b=true):eo ⟨l.toArray⟩=true:=by
 rw[J7]
 have e:Lib.trimS l kS=[]:=by
  unfold Lib.trimS;rw[Lib.trimRightS_take l kS 0 (Zv _) (fun j b _ E=>B b (Xb E)) (fun b h=>absurd h (Nat.lt_irrefl _))];rfl
 have I:(⟨l.toArray⟩:ByteArray).size<=16:=by show l.toArray.size<=16;rw[Zl];exact z
 show (!l.isEmpty&&decide _&&(Lib.trimS l kS).isEmpty)=true;rw[e];simp[y,I]
theorem Pc:eo nM=true:=pj (l:=[109]) (by decide) (by decide) (by decide)
theorem uF:eo fY=true:=pj (l:=[109,45,110,101,119]) (by decide) (by decide) (by decide)
theorem BW:∀n:Fin 256,48<=n.val->n.val<=57->kS.contains (UInt8.ofNat n.val)=true:=by decide +kernel
theorem Dd {n:Nat}(h:n<4294967296):eo (cD n)=true:=by
 have z:=l6 h;refine pj (by simp) (by simp;omega) fun b y=>?_;rcases Zu.1 y with rfl | y
 ·decide
 rcases Zu.1 y with rfl | y
 ·decide
 have hd:=ul n b y;have:=BW ⟨b.toNat,UInt8.toNat_lt b⟩ hd.1 hd.2
 rwa [UInt8.ofNat_toNat]at this
theorem qC (n:Nat):(cD n).data.toList=109::45::Lib.decDigits n:=by simp[cD]
theorem Cq (n:Nat):(cD n).size=2+(Lib.decDigits n).length:=by show (cD n).data.size=_;rw[<-Array.length_toList,qC];simp;omega
theorem L6 {u v:Nat}(z:u<4294967296)(B:v<4294967296)(h:cD u=cD v):u=v:=by
 have y:=congrArg (fun b:ByteArray=>b.data.toList) h;simp only[qC]at y;injection y with _ y;injection y with _ y;exact yY z B y
theorem pi (n:Nat):cD n≠nM:=by
 intro h;have y:=congrArg (fun b:ByteArray=>b.data.toList) h;simp only[qC,nM]at y;injection y with _ y;cases y
theorem oQ (n:Nat):cD n≠fY:=by
 intro h;have y:=congrArg (fun b:ByteArray=>b.data.toList) h;simp only[qC,fY]at y;injection y with _ y;injection y with _ y;have:=ul n 110 (by rw[y];simp);exact absurd this.2 (by decide)
theorem IR:nM≠fY:=by decide
theorem EC:gc nM=true:=by decide
theorem IE:gc fY=true:=by decide
theorem pq (n:Nat):gc (cD n)=true:=by unfold gc;rw[qC];rfl
theorem l8 {n:Nat}(h:n<4294967296):(cD n).size<=12:=by rw[Cq];have:=l6 h;omega
open Go.RowKit Go.Sl Go.Sort
theorem Jw {w w0:World}{S:ba}(m:Mod w w0 S)(os:Array Obj):Mod (grow w os) w0 S :=
 Mod.below (m:=m) ⟨rfl,rfl,rfl,by simp[grow],fun k y=>by simp[grow,XL y]⟩
attribute [local go_sem] ab bj bh bd
structure fX (S:ba):Prop where
 has:∃g,Tryz.prog.globalNamed "internal/strconv.uint64pow10"=some g/\∀h,S.says h->∃e f,h g=some (.cells (Lib.pow10Tab.map fun z=>Value.int .u64 z).toArray e f)
theorem fX.lift {S' S:ba}(s:Sub S' S)(t:fX S):fX S':=by
 obtain⟨g,z,h⟩:=t.has;refine⟨g,z,fun x I=>?_⟩;obtain⟨a,b,_,E,y,_⟩:=s.sub x ⟨x,Hp.none,fun _=>.inr rfl,by funext k;simp[Hp.join,Hp.none],I,trivial⟩;obtain⟨e,f,B⟩:=h a y;exact⟨e,f,by rw[E];simp[Hp.join,B]⟩
theorem fX.is {S:ba}{w w0:World}(t:fX S)(m:Mod w w0 S):Lib.TabIs Tryz.prog w "internal/strconv.uint64pow10" .u64 Lib.pow10Tab:=by
 obtain⟨g,I,h⟩:=t.has;obtain⟨a,b,_,B,E,_⟩:=m.says;obtain⟨e,f,J⟩:=h a E;have y:hp w g=some (.cells (Lib.pow10Tab.map fun z=>Value.int .u64 z).toArray e f):=by rw[B];simp[Hp.join,J]
 have y:w.heap[g]?=some (.cells (Lib.pow10Tab.map fun z=>Value.int .u64 z).toArray e f):=y;unfold Lib.TabIs World.var?;rw[I];simp only[Option.bind_some,y]
theorem mN (s p:ByteArray)(w w0:World)(S:ba)(m:Mod w w0 S):Calls Tryz.prog 49 #[.string s,.string p] w fun e y=>e=.returned (.bool (Lib.hasPrefix s.data.toList p.data.toList))/\Mod y w0 S :=
 (Any.strings_HasPrefix Tryz.mf99 s p w).mono fun e y ⟨z,B⟩=>⟨z,by rw[B];exact m⟩
theorem iM (s p:ByteArray)(w w0:World)(S:ba)(m:Mod w w0 S):Calls Tryz.prog 108 #[.string s,.string p] w fun e y=>e=.returned (.string ⟨(Lib.trimPrefix s.data.toList p.data.toList).toArray⟩)/\Mod y w0 S :=
 (Any.strings_TrimPrefix Tryz.mf101 s p w).mono fun e y ⟨z,B⟩=>⟨z,by rw[B];exact m⟩
theorem iP {w w0:World}{S:ba}(m:Mod w w0 S)(e:TypeId)(s:ByteArray):Mod (Lib.bytesWorld w e s) w0 S:=Mod.below (m:=m) (Lib.bytesWorld_below _ _ _)
theorem nc (s:ByteArray)(n:Nat)(E:s.size<=1000000)(h:Lib.parseUintB 32 s.data.toList=.ok n)(w w0:World)(S:ba)(m:Mod w w0 S) :
 Calls Tryz.prog 107 #[.string s,.int .i64 10,.int .i64 32] w fun e z=>e=.returned (.tuple #[.int .u64 (n:Int),.nilIface])/\Mod z w0 S :=
 (Any.strconv_ParseUint_10_at32_ok Tryz.mf14 s oMg n h w).mono fun e z ⟨B,y⟩=>⟨B,by rcases y with y | y <;> rw[y];exact m;exact iP m _ _⟩
theorem JC (u:Nat)(z:u<18446744073709551616)(w w0:World)(S:ba)(m:Mod w w0 S)(t:fX S) :
 Calls Tryz.prog 156 #[.int .u64 (u:Int),.int .i64 10] w fun e M=>e=.returned (.string ⟨(Lib.decDigits u).toArray⟩)/\Mod M w0 S:=by
 have B:=t.is m;by_cases hu:u<100
 ·have hi:(u:Int)<100:=oMg
  go_enter Tryz.func156,Tryz.ntmps156
  go_wp2_with (go_at_call 219;refine(Any.internal_strconv_small Tryz.mf283 u hu _).mono ?_;rintro e M ⟨rfl,rfl⟩)
  go_ret
  exact⟨rfl,m⟩
 ·have K:1<=u:=oMg
  have V:Lib.nDigits u<=20:=by have:=Lib.numDigits_eq u K z;split at this <;> omega
  have J:Tryz.prog.arrayLen 289=24:=kRf
  have ae:∀W,(Instr.sliceAt 289 (.pointer (some ⟨w.heap.size,0,none⟩)) none (some (.int .i64 (Lib.nDigits u:Int))) none).run Tryz.prog W=.ok (.slice (some ⟨w.heap.size,0,none⟩) (Lib.nDigits u) 24) W:=fun W=>by
   rw[run_sliceAt_array_h W 289 ⟨w.heap.size,0,none⟩ kRf .i64 (Lib.nDigits u:Int) oMg (by rw[J];omega)];go_simp
  have I:=Lib.holds_zero0 w 289 (Lib.nDigits u) oMg;have y:=Any.internal_strconv_formatBase10 Tryz.mf285 w.heap.size 0 24 u (Array.replicate (Lib.nDigits u) 0) (w.alloc (.cells Lib.zeros24 289)) I (by rw[XM];exact Lib.lt_pow_nDigits u) z (by rw[XM];omega);rw[XM]at y;have O:=zbj I;have iu:(100:Int)<=(u:Int):=oMg
  have Z:=zbj B;clear I J B;go_enter Tryz.func156,Tryz.ntmps156
  go_wp2_with (first
   | (go_at_call 220;refine(Any.internal_strconv_numDigits Tryz.mf284 u K z _ (Lib.tabIs_alloc Z.out _)).mono ?_;rintro e M ⟨rfl,rfl⟩))
  refine y.mono ?_;rintro e M ⟨rfl,k,v',E,rfl,hF⟩
  have aa:(convert 67 9 (.slice (some ⟨w.heap.size,0,none⟩) (Lib.nDigits u) 24)).run Tryz.prog ((putRow (fun(b:UInt8)=>Value.int .u8 (b.toNat:Int)) (w.alloc (.cells Lib.zeros24 289)) w.heap.size 0 E).drewN k)=.ok (.string ⟨(Lib.decDigits u).toArray⟩) ((putRow (fun(b:UInt8)=>Value.int .u8 (b.toNat:Int)) (w.alloc (.cells Lib.zeros24 289)) w.heap.size 0 E).drewN k):=by
   have h:=run_convert_bytes_back (P:=Tryz.prog) ((putRow (fun(b:UInt8)=>Value.int .u8 (b.toNat:Int)) (w.alloc (.cells Lib.zeros24 289)) w.heap.size 0 E).drewN k) 67 9 5 ⟨w.heap.size,0,none⟩ 24 (Lib.decDigits u) Tryz.underlying67 Tryz.underlying5 Tryz.underlying9 (fun j U=>by
    rw[Lib.row_is_numeral hF j U,Lib.add_plain,World.cell?_drewN]
    exact cell?_putRow (fun(b:UInt8)=>Value.int .u8 (b.toNat:Int)) _ w.heap.size 0 _ E O.out (by rw[hF.size,XM]) j (by rw[hF.size];rw[Lib.decDigits_length]at U;exact U))
   rw[Lib.decDigits_length]at h;exact h
  obtain⟨os,Y⟩:=Lib.fin_at w (.cells Lib.zeros24 289) E k 0;have mE:Mod ((putRow (fun(b:UInt8)=>Value.int .u8 (b.toNat:Int)) (w.alloc (.cells Lib.zeros24 289)) w.heap.size 0 E).drewN k) w0 S:=by rw[Y];exact Jw zbk os
  have HF:=zbj hF;clear hF y Y;generalize (putRow (fun(b:UInt8)=>Value.int .u8 (b.toNat:Int)) (w.alloc (.cells Lib.zeros24 289)) w.heap.size 0 E).drewN k=W2 at *;go_wp2
  go_ret
  exact⟨rfl,mE⟩
theorem rh (u:Nat)(y:u<18446744073709551616)(w w0:World)(S:ba)(m:Mod w w0 S)(t:fX S) :
 Calls Tryz.prog 109 #[.int .u64 (u:Int),.int .i64 10] w fun e E=>e=.returned (.string ⟨(Lib.decDigits u).toArray⟩)/\Mod E w0 S:=by
 have z:=zbj (JC u y w w0 S m t);clear t;go_enter Tryz.func109,Tryz.ntmps109
 go_wp2_with (go_at_call 156;refine z.out.mono ?_;rintro e w1 ⟨rfl,B⟩)
 go_ret
 exact⟨rfl,B⟩
theorem zT (B:Option Addr)(n c:Nat)(E:List ByteArray)(x:ByteArray)(w w0:World)(S:ba)(m:Mod w w0 S)(r:bk S B n (E.map Value.string))(hn:n<=1000000) :
 Calls Tryz.prog 53 #[.slice B n c,.string x] w fun e K=>e=.returned (.bool (Lib.containsS E x))/\Mod K w0 S:=by
 have y:=fp m r;rw[ZW]at y;by_cases U:n=0
 ·subst U
  have V:E=[]:=Zo y;subst V;exact(Any.slices_Contains_string_empty Tryz.mf110 B c x w).mono fun e K ⟨I,J⟩=>⟨by rw[I];rfl,by rw[J];exact m⟩
 ·obtain⟨⟨b,o,Y⟩,rfl,z,M⟩:=cP m r oMg
  simp only at z M;subst z;refine(Any.slices_Contains_string Tryz.mf110 b o n c E x w oMg oMg fun j O=>?_).mono fun e K ⟨I,J⟩=>⟨?_,by rw[J];exact m⟩
  ·have:=M j (.string E[j]) (by simp[O])
   rw[this]
   congr 2
   rw[Zw,Zg O];rfl
  ·rw[I,Zn oMg]
open Go.RowKit Go.Sl
def lp (holds s:ByteArray):Bool := !gc s||decide (s=holds)||(decide (s=nM) && !decide (holds=⟨#[]⟩))
def lm (D:aq)(holds:ByteArray):aq:={D with now:=D.now.filter (fun q=>lp holds q.1),sure:=D.now.filter (fun q=>lp holds q.1)}
def gA (z p:Nat)(j:Value)(num many:Nat)(y:Value)(k:Nat×Nat×Nat):ba :=
 aE z (.cells #[ap p,j,.int .u32 (num:Int),.int .i64 (many:Int),y,.slice none 0 0,.slice none 0 0,.int .u32 (k.1:Int),.int .u32 (k.2.1:Int),.int .u64 (k.2.2:Int),.bool true] 152 (0,0))
theorem p7 {w w0:World}{S F:ba}{p:Nat}{D:aq}(m:Mod w w0 S)(t:eM S (bv p) D F):cJ D:=by obtain⟨rn,rs,y,_⟩:=ie m t;exact y
theorem zX {l:qP}{s:ByteArray}(h:br l s=none):cG l s=l:=ZR.2 fun q y=>by simp[ot h q y]
theorem mi (p:Nat)(D:aq)(name:ByteArray)(w w0:World)(F:ba)(m:Mod w w0 (bv p D*F))(hn:eo name=true) :
 Calls Tryz.prog 71 #[ap p,.string name] w fun e E=>∃r:Int,e=.returned (.int .i64 r)/\Mod E w0 (bv p {D with now:=cG D.now name}*F):=by
 have I:name.size<=9223372036854775807:=by have:=nJ hn;omega
 cases B:br D.now name with
 | none =>
   have e:({D with now:=cG D.now name}:aq)=D:=by rw[zX B]
   rw[e];exact(sY p D name w w0 _ F m ⟨rfl⟩ I hn B).mono fun e E ⟨y,z⟩=>⟨7,y,z⟩
 | some g=>exact(Kt p D name w w0 _ F m ⟨rfl⟩ I g hn B).mono fun e E ⟨y,z⟩=>⟨0,y,z⟩
def jC (D:aq)(holds:ByteArray)(i:Nat):aq:={D with now:=D.now.filter fun q=>lp holds q.1||decide (q.1.data.toList ∉ (e8 D).take i)}
theorem CR (D:aq)(holds:ByteArray):jC D holds 0=D:=by
 unfold jC;rw[ZR.2 (fun q _=>by simp)]
theorem DK {a b:ByteArray}(h:a.data.toList=b.data.toList):a=b:=by
 apply Xl;exact YY.1 h
theorem p6 {α:Type}{l:List α}{i:Nat}(y:i<l.length)(x:α):x∈l.take (i+1)↔x∈l.take i\/x=l[i]:=by
 rw[Zx y,ZA,ZE]
theorem CQ {D:aq}{holds:ByteArray}{i:Nat}(z:i<(e8 D).length)(B:lp holds ⟨(e8 D)[i].toArray⟩=true):jC D holds (i+1)=jC D holds i:=by
 unfold jC
 congr 1
 refine Y4 fun q _=>?_;by_cases y:q.1.data.toList=(e8 D)[i]
 ·have:q.1=⟨(e8 D)[i].toArray⟩:=DK (by rw[y])
  rw[this,B];rfl
 ·congr 1
  exact decide_eq_decide.2 (not_congr ((p6 z _).trans ⟨fun h=>h.resolve_right y,.inl⟩))
theorem CP {D:aq}{holds:ByteArray}{i:Nat}(z:i<(e8 D).length)(J:lp holds ⟨(e8 D)[i].toArray⟩=false):jC D holds (i+1)={jC D holds i with now:=cG (jC D holds i).now ⟨(e8 D)[i].toArray⟩}:=by
 unfold jC cG;simp only;rw[Y8]
 congr 1
 refine Y4 fun q _=>?_;by_cases y:q.1.data.toList=(e8 D)[i]
 ·have B:q.1=⟨(e8 D)[i].toArray⟩:=DK (by rw[y])
  have E:q.1.data.toList∈(e8 D).take (i+1):=(p6 z _).2 (.inr y);simp only[E,not_true_eq_false,decide_false,Bool.or_false];rw[B,J];simp
 ·have I:¬q.1=⟨(e8 D)[i].toArray⟩:=fun e=>y (by rw[e])
  rw[decide_eq_false I,Bool.not_false,za7]
  congr 1
  exact decide_eq_decide.2 (not_congr ((p6 z _).trans ⟨fun h=>h.resolve_right y,.inl⟩))
theorem toList_nM:nM.toList=[109]:=by rw[ByteArray.toList_eq];rfl
theorem toList_no:(⟨#[]⟩:ByteArray).toList=[]:=by rw[ByteArray.toList_eq]
theorem uD {D:aq}{l:List UInt8}:l∈e8 D↔∃q∈D.now,q.1.data.toList=l:=by
 unfold e8;rw[(YI _ _).mem_iff,Zz]
theorem DG (D:aq)(holds:ByteArray):(⟨(jC D holds (e8 D).length).size,(jC D holds (e8 D).length).now,(jC D holds (e8 D).length).now,(jC D holds (e8 D).length).files⟩:aq)=lm D holds:=by
 unfold jC lm
 have e:D.now.filter (fun q=>lp holds q.1||decide (q.1.data.toList ∉ (e8 D).take (e8 D).length))=D.now.filter fun q=>lp holds q.1:=by
  refine Y4 fun q y=>?_;rw[Xc];have:q.1.data.toList∈e8 D:=uD.2 ⟨q,y,rfl⟩;simp[this]
 simp only[e]
theorem zc (L:List (List UInt8)):L.map Go.Proofs.encStr=pT (L.map fun l=>⟨l.toArray⟩):=by
 rw[pT,Yw];apply YS;intro s _;simp[Go.Proofs.encStr]
def NG (a b c d:Bool):Bool:=(a && !b)&&(!c||d)
theorem JF (holds s:ByteArray):lp holds s = !NG (gc s) (decide (s=holds)) (decide (s=nM)) (decide (holds=⟨#[]⟩)):=by
 unfold lp NG;cases gc s <;> cases decide (s=holds) <;> cases decide (s=nM) <;> cases decide (holds=⟨#[]⟩) <;> rfl
theorem yS (mp p:Nat)(j:Value)(num many:Nat)(fs:Value)(k:Nat×Nat×Nat)(D:aq)(holds:ByteArray)(w w0:World)(F:ba)(m:Mod w w0 (bv p D*(gA mp p j num many fs k*F))) :
 Calls Tryz.prog 105 #[ap mp,.string holds] w fun e w'=>e=.returned (.tuple #[])/\Mod w' w0 (bv p (lm D holds)*(gA mp p j num many fs k*F)):=by
 have Z:=p7 (F:=gA mp p j num many fs k*F) m ⟨rfl⟩;unfold gA at m ⊢;obtain⟨n,hn⟩:∃n,(e8 D).length=n:=⟨_,rfl⟩;have HL:=zbj (fun(u:World)(F:ba)(mu:Mod u w0 (bv p D*F))=>tz p D u w0 _ F mu ⟨rfl⟩);rw[hn,zc]at HL;have af:n<=64:=by rw[<-hn,tT];exact Z.many
 have ag:Hid (∀s∈(e8 D).map fun l=>(⟨l.toArray⟩:ByteArray),eo s=true):=fun s hs=>by
  obtain⟨l,hl,rfl⟩:=Zz.1 hs;obtain⟨q,hq,rfl⟩:=uD.1 hl;exact Z.named q hq
 have Hn:=zbj hn;clear Z hn;go_enter Tryz.func105,Tryz.ntmps105
 go_wp2_with (go_at_call 50;refine(HL.out _ _ m).mono ?_;rintro e w1 ⟨B,c,rfl,m1⟩)
 clear m HL;go_loopg [12] n (fun gk iv wr=>∃i:Nat,i<=n/\gk=n-i/\iv=.int .i64 (i:Int)/\Mod wr w0 (bv p (jC D holds i)*(ar 9 1 (.slice B n c) n (pT ((e8 D).map fun l=>(⟨l.toArray⟩:ByteArray)))*(aE mp (.cells #[ap p,j,.int .u32 (num:Int),.int .i64 (many:Int),fs,.slice none 0 0,.slice none 0 0,.int .u32 (k.1:Int),.int .u32 (k.2.1:Int),.int .u64 (k.2.2:Int),.bool true] 152 (0,0))*F))))
 case atStart=>exact⟨0,Zv _,rfl,rfl,by rw[CR];exact Mod.to (m:=m1) (cC _ _ _)⟩
 case round =>
  obtain⟨i,hi,aj,rfl,m2⟩:=hrel;by_cases E:i<n
  ·have ah:(i:Int)<(n:Int):=oMg
   have K:i<(e8 D).length:=by rw[Hn.out];exact E
   obtain⟨b,o,rfl,J⟩:=px m2 (zbk:bk _ B n (pT ((e8 D).map fun l=>(⟨l.toArray⟩:ByteArray)))) oMg;have hc:=J i (by simpa using K);rw[Xa]at hc;have ae:=ag.out ⟨(e8 D)[i].toArray⟩ (Zz.2 ⟨_,Zq K,rfl⟩);have M:=zbj (JF holds ⟨(e8 D)[i].toArray⟩);have Y:=zbj (fun hk=>CQ (holds:=holds) K hk);have aa:=zbj (fun hk=>CP (holds:=holds) K hk);clear J;generalize (e8 D)[i]=l at *;clear K;generalize (⟨l.toArray⟩:ByteArray)=s at *;have V:=zbj (fun(u:World)(S:ba)(mu:Mod u w0 S)=>mN s ⟨#[109]⟩ u w0 S mu);have ho:Lib.hasPrefix s.data.toList (⟨#[109]⟩:ByteArray).data.toList=gc s:=rfl;rw[ho]at V;clear ho
   cases ha:gc s with
   | false =>
     rw[ha]at V M;go_wp2_with (go_at_call 49;refine(V.out _ _ m2).mono ?_;rintro e w3 ⟨rfl,U⟩)
     go_roundg (n-(i+1))
     case measure=>omega
     case rel=>exact⟨i+1,E,rfl,by go_num,by rw[Y.out (by rw[M.out];rfl)];exact U⟩
   | true =>
     rw[ha]at V M;have HG:=zbj (fun(u:World)(F:ba)(mu:Mod u w0 (bv p (jC D holds i)*F))=>mi p (jC D holds i) s u w0 F mu ae);by_cases e1:s.toList=holds.toList
     ·have y:lp holds s=true:=by rw[M.out,decide_eq_true (toList_inj e1)];rfl
      go_wp2_with (go_at_call 49;refine(V.out _ _ m2).mono ?_;rintro e w3 ⟨rfl,U⟩)
      go_roundg (n-(i+1))
      case measure=>omega
      case rel=>exact⟨i+1,E,rfl,by go_num,by rw[Y.out y];exact U⟩
     ·have O:decide (s=holds)=false:=decide_eq_false fun e=>e1 (by rw[e])
      rw[O]at M;by_cases e2:s.toList=[109]
      ·have z:decide (s=nM)=true:=decide_eq_true (toList_inj (e2.trans toList_nM.symm))
       rw[z]at M;have e3:¬[109]=holds.toList:=fun e=>e1 (e2.trans e)
       cases h0:holds.toList.isEmpty with
       | false =>
         have I:decide (holds=⟨#[]⟩)=false:=decide_eq_false fun e=>by rw[e,toList_no]at h0;cases h0
         have y:lp holds s=true:=by rw[M.out,I];rfl
         clear O z I e1;go_wp2_with (go_at_call 49;refine(V.out _ _ m2).mono ?_;rintro e w3 ⟨rfl,U⟩)
         go_roundg (n-(i+1))
         case measure=>omega
         case rel=>exact⟨i+1,E,rfl,by go_num,by rw[Y.out y];exact U⟩
       | true =>
         have I:decide (holds=⟨#[]⟩)=true:=decide_eq_true (toList_inj ((Xn.1 h0).trans toList_no.symm));have y:lp holds s=false:=by rw[M.out,I];rfl
         have ai:holds.toList=[]:=Xn.1 h0;clear O z I e1
         go_wp2_with first
          | (go_at_call 49;refine(V.out _ _ m2).mono ?_;rintro e w3 ⟨rfl,U⟩)
          | (go_at_call 71;refine(HG.out _ _ U).mono ?_;rintro e w4 ⟨r,rfl,m4⟩)
         go_roundg (n-(i+1))
         case measure=>omega
         case rel=>exact⟨i+1,E,rfl,by go_num,by rw[aa.out y];exact m4⟩
      ·have z:decide (s=nM)=false:=decide_eq_false fun e=>e2 (by rw[e,toList_nM])
       have y:lp holds s=false:=by rw[M.out,z];rfl
       have b1:(s.toList==holds.toList)=false:=beq_eq_false_iff_ne.2 e1;have b2:(s.toList==[109])=false:=beq_eq_false_iff_ne.2 e2;clear O z
       go_wp2_with first
        | (go_at_call 49;refine(V.out _ _ m2).mono ?_;rintro e w3 ⟨rfl,U⟩)
        | (go_at_call 71;refine(HG.out _ _ U).mono ?_;rintro e w4 ⟨r,rfl,m4⟩)
       go_roundg (n-(i+1))
       case measure=>omega
       case rel=>exact⟨i+1,E,rfl,by go_num,by rw[aa.out y];exact m4⟩
  ·have ah:¬(i:Int)<(n:Int):=oMg
   have he:i=n:=oMg
   subst he;have HN:=zbj (fun(u:World)(F:ba)(mu:Mod u w0 (bv p (jC D holds i)*F))=>kL p (jC D holds i) u w0 _ F mu ⟨rfl⟩);go_wp2_with (go_at_call 74;refine(HN.out _ _ m2).mono ?_;rintro e w4 ⟨rfl,m4⟩)
   go_end0
   refine⟨rfl,?_⟩;rw[<-DG,Hn.out];exact Mod.drop (A:=ar 9 1 (.slice B i c) i (pT ((e8 D).map fun l=>(⟨l.toArray⟩:ByteArray)))) (m:=Mod.to (m:=m4) (by ac_rfl))
theorem Dp (m:Nat):∀(p n:Nat),n<=m->p%128=0->10*AW p n<=11*n+70:=by
 induction m with
 | zero =>
   intro p n h hp;have hn:n=0:=oMg
   subst hn;have:cg p=0:=by unfold cg;split <;> omega
   rw[rQ,this];simp
 | succ m B =>
   intro p n h hp;have z:cg p=0:=by unfold cg;split <;> omega
   rw[rQ,z];simp only[Nat.add_zero,hp,ZM,Nat.sub_zero]
   split
   ·omega
   ·have y:min n (128-7)=121:=oMg
    rw[y];have:=B (p+7+121) (n-121) oMg oMg;omega
theorem KK (p n:Nat):10*AW p n<=11*n+210:=by
 have B:=sZ p;rw[rQ];have z:=kP p
 split
 ·omega
 ·rename_i hne
  have y:min n (128-(p+cg p)%128-7)=128-(p+cg p)%128-7:=oMg
  rw[y];have:=Dp (n-(128-(p+cg p)%128-7)) (p+cg p+7+(128-(p+cg p)%128-7)) (n-(128-(p+cg p)%128-7)) (Zm _) oMg;omega
theorem qN (p:Nat)(f:Bool)(r:List UInt8):10*(fz p f r).length<=11*r.length+210:=by rw[Fc];exact KK _ _
theorem sO:∀(l:List (List UInt8))(a:List UInt8)(c:Nat),(∀r∈l,r.length<=c)->10*(al a l).length<=10*a.length+l.length*(11*c+210)
 | [],a,c,_=>by simp[al]
 | r::l,a,c,h=>by
   rw[mO];have y:=sO l (a++fz a.length true r) c fun q z=>h q (Zh _ z);have B:=qN a.length true r;have E:=h r (Zj ..);rw[Ze]at y;rw[List.length_cons,zbi];omega
theorem QL (p:Nat)(f:Bool)(r:List UInt8):r.length<=(fz p f r).length:=by
 obtain⟨n,hn⟩:∃n,r.length=n:=⟨_,rfl⟩
 induction n using Nat.strongRecOn generalizing p f r with
 | _ n B =>
   rw[tq];have E:=oM p r
   split
   ·omega
   ·rename_i hne
    have y:0<r.length:=by rcases YD r.length with h | h <;> omega
    have z:=qr p r y;have:=B (r.length-gh p r) oMg (p+cg p+7+gh p r) false (r.drop (gh p r)) (by rw[ZF]);rw[ZF]at this;omega
theorem j0:∀(l:List (List UInt8))(a:List UInt8),a.length+(l.map List.length).sum<=(al a l).length
 | [],a=>by simp[al]
 | r::l,a=>by
   rw[mO];have y:=j0 l (a++fz a.length true r);have z:=QL a.length true r;rw[Ze]at y;rw[Zy,List.sum_cons];omega
structure OC (D:aq)(num:Nat)(rs:List (List UInt8)):Prop where
 ex:∃gm gj,br D.now nM=some gm/\br D.now (cD num)=some gj/\cw D.files gm=some ⟨(cD num).data.toList,(cD num).size⟩/\cw D.files gj=some ⟨al [] rs,(al [] rs).length⟩/\br D.sure nM=some gm/\br D.sure (cD num)=some gj
 own:∀q∈D.now,gc q.1=true->q.1=nM\/q.1=cD num
 Of:∀q∈D.sure,gc q.1=true->q.1=nM\/q.1=cD num
def gO (D:aq)(nm:ByteArray)(b:List UInt8)(y z:Nat):Nat->aq
 | 0=>{D with now:=cV D.now nm y,files:=(y,⟨b,0⟩)::D.files}
 | 1=>{D with now:=cV D.now nm y,files:=(y,⟨b,b.length⟩)::D.files}
 | 2=>{D with now:=cV (cV D.now nm y) fY z,files:=(z,⟨[],0⟩)::(y,⟨b,b.length⟩)::D.files}
 | 3=>{D with now:=cV (cV D.now nm y) fY z,files:=(z,⟨nm.data.toList,0⟩)::(y,⟨b,b.length⟩)::D.files}
 | 4=>{D with now:=cV (cV D.now nm y) fY z,files:=(z,⟨nm.data.toList,nm.data.toList.length⟩)::(y,⟨b,b.length⟩)::D.files}
 | 5=>{D with now:=cV (cV D.now nm y) fY z,sure:=cV (cV D.now nm y) fY z,files:=(z,⟨nm.data.toList,nm.data.toList.length⟩)::(y,⟨b,b.length⟩)::D.files}
 | 6=>{D with now:=cV (cG (cV (cV D.now nm y) fY z) fY) nM z,sure:=cV (cV D.now nm y) fY z,files:=(z,⟨nm.data.toList,nm.data.toList.length⟩)::(y,⟨b,b.length⟩)::D.files}
 | _=>{D with now:=cV (cG (cV (cV D.now nm y) fY z) fY) nM z,sure:=cV (cG (cV (cV D.now nm y) fY z) fY) nM z,files:=(z,⟨nm.data.toList,nm.data.toList.length⟩)::(y,⟨b,b.length⟩)::D.files}
structure Over (D D':aq):Prop where
 size:D'.size=D.size
 files:∀k f,cw D.files k=some f->cw D'.files k=some f
theorem nC {T:ep}{g:Nat}(z:cw T g=none)(f:dr)(k:Nat)(y:dr)(h:cw T k=some y):cw ((g,f)::T) k=some y:=by
 simp only[cw];rw[if_neg]
 ·exact h
 ·rintro rfl;rw[z]at h;cases h
theorem Dw {D:aq}{num z y:Nat}{rs:List (List UInt8)}(Y:cw D.files z=none)(U:cw ((z,(⟨al [] rs,(al [] rs).length⟩:dr))::D.files) y=none) :
 OC (lm (gO D (cD num) (al [] rs) z y 7) (cD num)) num rs/\Over D (lm (gO D (cD num) (al [] rs) z y 7) (cD num)) /\
  ∀s,gc s=false->br (lm (gO D (cD num) (al [] rs) z y 7) (cD num)).now s=br D.now s:=by
 have ne:y≠z:=by rintro rfl;simp[cw]at U
 have M:lp (cD num) nM=true:=by
  unfold lp
  have:¬cD num=⟨#[]⟩:=fun e=>by
   have h:=congrArg ByteArray.size e;rw[Cq]at h;exact absurd h (by show 2+_≠0;omega)
  simp[this]
 have O:lp (cD num) (cD num)=true:=by unfold lp;simp
 have K:br ((cV (cG (cV (cV D.now (cD num) z) fY y) fY) nM y).filter (fun q=>lp (cD num) q.1)) nM=some y:=by
  rw[lw,if_pos M,fN,if_pos rfl]
 have J:br ((cV (cG (cV (cV D.now (cD num) z) fY y) fY) nM y).filter (fun q=>lp (cD num) q.1)) (cD num)=some z:=by
  rw[lw,if_pos O,fN,if_neg (pi num),lD,if_neg (oQ num),fN,if_neg (oQ num),fN,if_pos rfl]
 have own:∀q∈(cV (cG (cV (cV D.now (cD num) z) fY y) fY) nM y).filter (fun q=>lp (cD num) q.1),gc q.1=true->q.1=nM\/q.1=cD num:=by
  intro q hq ho;have B:=(ZB.1 hq).2;unfold lp at B;rw[ho]at B;simp only[za6,za5,Xh,decide_eq_true_eq,Yg]at B;rcases B with B | B
  ·exact .inr B
  ·exact .inl B.1
 refine⟨⟨⟨y,z,K,J,?_,?_,K,J⟩,own,own⟩,⟨rfl,fun k f Z=>?_⟩,fun s I=>?_⟩
 ·show cw ((y,_)::_) y=_
  simp only[cw,if_pos];rw[show (cD num).data.toList.length=(cD num).size from Array.length_toList]
 ·show cw ((y,_)::(z,_)::_) z=_
  simp only[cw,if_neg ne,if_pos]
 ·exact nC U _ _ _ (nC Y _ _ _ Z)
 ·have E:lp (cD num) s=true:=by unfold lp;rw[I];rfl
  have n1:s≠nM:=by rintro rfl;rw[EC]at I;cases I
  have V:s≠fY:=by rintro rfl;rw[IE]at I;cases I
  have n3:s≠cD num:=by rintro rfl;rw[pq]at I;cases I
  show br (List.filter _ _) s=_;rw[lw,if_pos E];show br (cV _ nM y) s=_;rw[fN,if_neg n1,lD,if_neg V,fN,if_neg V,fN,if_neg n3]
theorem Jp {D y:aq}{num:Nat}{rs:List (List UInt8)}(h:OC D num rs)(o:Over D y)(z:y.now=D.now)(B:y.sure=D.now):OC y num rs:=by
 obtain⟨⟨O,M,E,I,J,K,U,V⟩,b,_⟩:=h;exact⟨⟨O,M,by rw[z];exact E,by rw[z];exact I,o.files _ _ J,o.files _ _ K,by rw[B];exact E,by rw[B];exact I⟩,by rw[z];exact b,by rw[B];exact b⟩
theorem tH {D:aq}{nm:ByteArray}{g:Nat}{f:dr}(y:cJ D)(B:br D.now nm=none)(E:cw D.files g=none):eh ((g,f)::D.files) (cV D.now nm g)=eh D.files D.now+f.bytes.length:=by
 have hn:g ∉ D.now.map (·.2):=by
  intro I;obtain⟨q,J,z⟩:=Zz.1 I;have:=y.now q J;rw[z,E]at this;cases this
 rw[ph B,rY,uP _ _ _ _ hn];simp[eh,cw]
end Go.Proofs.YtdfppjcaelghhaaGreatDoor
