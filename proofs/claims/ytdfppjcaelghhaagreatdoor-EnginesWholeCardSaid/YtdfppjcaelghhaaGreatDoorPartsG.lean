/- Plain lemmas and contracts; the conditions are in each. -/
import Derived.Deep.MidRow
import Derived.Laws.BitsAllLaws
import Derived.Lib.AppendZeros
import Derived.Lib.AppendZerosOnto
import Derived.OrdersIn
import Derived.StillTail
import Derived.Test.YtdfppjcaelghhaaGreatDoorArgsG
import Derived.Test.YtdfppjcaelghhaaGreatDoorJourPG
set_option maxHeartbeats 2000000
set_option maxRecDepth 100000
namespace Go.Sl
open Go Go.RowKit
theorem lU (z:Value)(n:Nat):(Builtin.zeroCells #[z] n).toList=List.replicate n z:=by
 apply zba
 ·simp[Builtin.zeroCells]
 ·intro i y B
  simp[Builtin.zeroCells,Nat.mod_one]
theorem si {P:Program}(w:World)(t Z ty e:TypeId)(i:TypeInfo)(z:Value)(kq kn:IntKind)(ht:P.underlying t=some (.slice e))(O:P.underlying Z=some (.int kn))(hi:P.info? e=some i)(hz:i.zero=some z)
 (y:i.size=1) (U:z.cells=#[z]) (h1:z.oneCell'=true) (g n cap:Nat) (B:Array Value) (hg:w.heap[g]?=some (.cells B e (0,0))) (k:Nat) (h0:0<k) (E:n+k<=cap) (V:n+k<=B.size) (hk:(k:Int)<=9223372036854775807) (aa:k*i.bytes<=281474976710656) :
 (Builtin.append_ #[t,Z] ty #[.slice (some ⟨g,0,none⟩) n cap,.int kq k]).run P w =
   .ok (.slice (some ⟨g,0,none⟩) (n+k) cap) (w.setRow g (B.toList.take n++List.replicate k z++B.toList.drop (n+k)).toArray):=by
 have I:=run_storeCells_at P g (n*i.size) e (Builtin.zeroCells #[z] k).toList 0 B w hg (by rw[lU,Yh,y];omega) (fun v Y=>by rw[lU]at Y;rw[(List.mem_replicate.1 Y).2];exact h1);rw[lU,Yh]at I;simp only[Nat.add_zero,y,zas]at I;have M:k≠0:=oMg
 have hw:IntKind.i64.wrap (k:Int)=k:=by rw[IntKind.wrap_i64];omega
 have K:¬((k:Int)<0):=oMg
 have J:¬(281474976710656<(k:Int)*(i.bytes:Int)):=by
  rw[<-Int.natCast_mul];omega
 simp[Builtin.append_,run_underlying ht,run_underlying O,sizeOf,typeInfo,zeroValue,hi,hz,asInt,asIntOf,hw,K,E,y,M,J,U,lU,Addr.add_lit,I]
theorem s8 {P:Program}{w w0:World}{F:ba}(t tn ty e:TypeId)(i:TypeInfo)(z:Value)(kn:IntKind)(bytes:Nat)(ht:P.underlying t=some (.slice e))(M:P.underlying tn=some (.int kn))(hi:P.info? e=some i)(hz:i.zero=some z)
 (K:i.size=1) (af:i.bytes=bytes) (ae:z.cells=#[z]) (h1:z.oneCell'=true) (v:Value) (n:Nat) (xs:List Value) (m:Mod w w0 (ar e 1 v n xs*F)) (k:Nat) (aj:n+k<=maxLen) (U:(n+k)*bytes<=140737488355328) :
 ∃A' c' w',(Builtin.append_ #[t,tn] ty #[v,.int .i64 k]).run P w=.ok (.slice A' (n+k) c') w'/\Mod w' w0 (ar e 1 (.slice A' (n+k) c') (n+k) (xs++List.replicate k z)*F):=by
 have E:=fW m;unfold maxLen at aj;have ai:IntKind.i64.wrap (0:Int)=0:=by decide
 rcases YD k with V | V
 ·subst V
  simp only[Nat.add_zero,List.replicate_zero,ZH];rcases E.2 with⟨rfl,rfl⟩ | ⟨g,cap,O,rfl,_,hh,ag,_⟩
  ·refine⟨none,0,w,?_,m⟩
   simp[Builtin.append_,run_underlying ht,run_underlying M,sizeOf,typeInfo,hi,asInt,asIntOf,ai]
  ·refine⟨_,_,w,?_,m⟩
   simp[Builtin.append_,run_underlying ht,run_underlying M,sizeOf,typeInfo,hi,ag,asInt,asIntOf,storeCells,ai]
 ·have hl:=E.1
  have Y:k*i.bytes<=281474976710656:=by
   rw[af];have:=Xw bytes (show k<=n+k by omega);omega
  have B:(xs++List.replicate k z).length=(n+k)*1:=by rw[Ze,Yh,hl];omega
  have fresh:∀(y:Nat)(I:List Value),I=xs->y<n+k->∀row,
   (w.drew.alloc (.cells (I.toArray++Builtin.zeroCells z.cells k++Builtin.zeroCells z.cells (grownCap w (n+k) y e-(n+k))) e)).ownsRow 0 e 1
     (.slice (some ⟨w.heap.size,0,none⟩) (n+k) (grownCap w (n+k) y e)) (n+k) (xs++List.replicate k z) /\
   w.grownBy (w.drew.alloc (.cells (I.toArray++Builtin.zeroCells z.cells k++Builtin.zeroCells z.cells (grownCap w (n+k) y e-(n+k))) e)) row:=by
   rintro y I rfl ho row;have ak:=grownCap_ge w (n+k) y e;have Z:grownCap w (n+k) y e<=maxLen:=grownCap_le_maxLen w (n+k) y e (by unfold maxLen;omega);refine⟨⟨B,.inr ⟨w.heap.size,_,_,rfl,Zv _,_root_.Go.heap_alloc_new w.drew _,ak,Z,?_,?_⟩⟩,⟨rfl,rfl,rfl,by simp,fun k V _=>_root_.Go.heap_alloc_old w.drew _ V⟩⟩
   ·simp only[Array.size_append,Zl,size_zeroCells,ae,hl,Zl,List.length_cons,List.length_nil]
    omega
   ·simp only[Array.toList_append,ae,lU]
    rw[<-B];exact XC
  rcases E.2 with⟨rfl,rfl⟩ | ⟨g,cap,O,rfl,_,hh,ag,Z,av,aa⟩
  ·have au:xs=[]:=Zo (by simpa using hl)
   obtain⟨f1,f2⟩:=fresh 0 [] au.symm oMg (Value.ownBlock (.slice none 0 0));simp only[ZM,zaz]at f1 f2 ⊢;have hr:=Lib.run_append_nil_zeros (P:=P) w t tn ty e i z .i64 kn ht M hi hz k V oMg oMg Y;exact⟨_,_,_,hr,m.rK f1 f2 (.inr rfl)⟩
  ·by_cases J:n+k<=cap
   ·have hr:=si (P:=P) w t tn ty e i z .i64 kn ht M hi hz K ae h1 g n cap O hh k V J oMg oMg Y
    refine⟨_,_,_,hr,m.rK (v':=.slice (some ⟨g,0,none⟩) (n+k) cap) ⟨B,.inr ⟨g,cap,_,rfl,Zv _,setRow_heap w g O _ e _ hh,J,Z,?_,?_⟩⟩ ⟨rfl,rfl,rfl,by simp,fun k _ V=>setRow_other w g k _ (fun e=>V (by simp[Value.ownBlock,e]))⟩ (.inl rfl)⟩
    ·simp only[Zl,Ze,Zt,ZF,Array.length_toList,Yh]
     omega
    ·rw[<-B]
     have:O.toList.take n=xs:=by rw[<-aa,zas]
     rw[this];exact XC
   ·have holds:∀j u,xs[j]?=some u->w.cell? ((⟨g,0,none⟩:Addr).add j)=some u:=E.cells (g:=g) rfl
    have ah:=run_firstCells_some (P:=P) w.drew i.size n ⟨g,0,none⟩ n cap xs (by rw[hl,K]) (by simpa using holds);have hr:=Lib.run_append_grow_zeros (P:=P) w t tn ty e i z .i64 kn ht M hi hz (some ⟨g,0,none⟩) n cap xs ah k V oMg oMg oMg Y (by rw[af];exact growslice_fits oMg U);obtain⟨f1,f2⟩:=fresh cap xs rfl oMg (Value.ownBlock (.slice (some ⟨g,0,none⟩) n cap));exact⟨_,_,_,hr,m.rK f1 f2 (.inr rfl)⟩
theorem tN {P:Program}{w w0:World}{K F:ba}{ops:Array Oper}{rest:List Oper}{o:Oper}{a:Act}{Q:Exit->Act->World->Prop}{s x:Operand}{t Z:TypeId}{e:TypeId}{bytes:Nat} [T:wl P t e bytes](U:o.guard=none)
 (ho:o.op=.call {callee:=.builtin .append,args:=#[s,x],argTypes:=#[t,Z]}) {kn:IntKind} (V:P.underlying Z=some (.int kn)) {i:TypeInfo} {z:Value} (hi:P.info? e=some i) (hz:i.zero=some z) (Y:z.cells=#[z]) (h1:z.oneCell'=true)
 (m:Mod w w0 K) {v:Value} {n:Nat} {xs:List Value} (hs:a.eval s=v) [tk:eM K (fun q:Nat×List Value=>ar e 1 v q.1 q.2) (n,xs) F] {k:Nat} (hx:a.eval x=.int .i64 (k:Int)) (M:n+k<=maxLen) (y:(n+k)*bytes<=140737488355328)
 (h:∀A' c' J,Mod J w0 (ar e 1 (.slice A' (n+k) c') (n+k) (xs++List.replicate k z)*F)->wpList P ops Q rest (a.put o.dst (.slice A' (n+k) c')) J):wpList P ops Q (o::rest) a w:=by
 obtain⟨i',z',E,aa,B,O,_⟩:=T.get;rw[hi]at E;injection E with e1;subst e1;have e0:K=ar e 1 v n xs*F:=tk.eq;refine wpList_plain U fun _ hK=>?_;obtain⟨A',c',J,I,m'⟩:=s8 (P:=P) t Z o.type e i z kn bytes T.ht V hi hz B O Y h1 v n xs (Mod.to e0 (m:=m)) k M y;unfold Oper.wp execOp;simp only[ho,resolve,invoke,builtin,Sem.run_bind,Sem.run_pure,Result.andThen_ok,Y0,Zy,Ye,hs,hx,I];exact hK _ _ (h A' c' J m')
section
variable {P:Program}{ops:Array Oper}{md:Region.Mode}{C:World->Prop}
def wg (P:Program)(md:Region.Mode)(ops:Array Oper)(C:World->Prop)(n:Nat)(L:Array Bool->Act->Prop):Nat->Array Bool->Act->Prop
 | 0,listed,a=>L listed a
 | f+1,listed,a=>Region.ready md ops listed≠[]/\∀i∈Region.ready md ops listed,i<n/\qOp P ops C i (wg P md ops C n L f (listed.setIfInBounds i true)) a
theorem tm {n g:Nat}{L:Array Bool->Act->Prop}{Q':Exit->Act->World->Prop}(B:∀y a w,C w->L y a->wpAny P md ops Q' g y a w) :
 ∀(f:Nat)(y:Array Bool)(a:Act)(w:World),C w->wg P md ops C n L f y a->wpAny P md ops Q' (f+g) y a w
 | 0,y,a,w,hw,h=>by rw[ZM];exact B _ _ _ hw h
 | f+1,y,a,w,hw,h=>by
   rw[show f+1+g=(f+g)+1 by omega];exact⟨fun I=>absurd I h.1,fun i J=>wpOp_of_qOp hw (fun E K z h'=>tm B f _ E K z h') (h.2 i J).2⟩
theorem BF {n i:Nat}{oi:Oper}{v:Value}{L:Array Bool->Act->Prop}(hi:ops[i]?=some oi)(U:∀(j:Nat)(o:Oper) cs b,ops[j]?=some o->o.op ≠ .select cs b)
 (hs:Region.sinkB md ops n=true) (hc:Region.chainB md ops n=true) (hn:n<ops.size) (ae:i<n)
 (V:∀y a,L y a->∀j∈Region.ready md ops y,n<=j) :
 ∀(f:Nat)(y:Array Bool)(a:Act),HeadInv md ops n y ->
  (∀j oj,ops[j]?=some oj->j≠i->y.getD j true=false->(∀e∈oj.after,Region.binds md e=true->e.on≠i)->oi.apart ops oj=true) ->
  i∈Region.ready md ops y->YieldsIn P ops C oi v a ->
  wg P md ops C n L f (y.setIfInBounds i true) (a.put oi.dst v)->wg P md ops C n L (f+1) y a:=by
 intro f
 induction f with
 | zero =>
   intro y a K _ O hy H;have B:=(mem_ready.1 O).1;refine⟨fun h=>(by rw[h]at O;cases O),fun j Y=>?_⟩
   have J:j<n:=by
    rcases XH j n with h | h
    ·exact h
    ·exact absurd Y (tail_waits hs hc hn K _ i rfl ae B j h)
   refine⟨J,?_⟩;by_cases z:j=i
   ·subst z;exact hy.qOp hi H
   ·have:=V _ _ H j (ready_mono Y z)
    omega
 | succ f ih =>
   intro y a K E O hy H;have B:=(mem_ready.1 O).1;refine⟨fun h=>(by rw[h]at O;cases O),fun j Y=>?_⟩
   have J:j<n:=by
    rcases XH j n with h | h
    ·exact h
    ·exact absurd Y (tail_waits hs hc hn K _ i rfl ae B j h)
   refine⟨J,?_⟩;by_cases z:j=i
   ·subst z;exact hy.qOp hi H
   ·have h1:=(H.2 j (ready_mono Y z)).2
    obtain⟨M,oj,Z,aa⟩:=mem_ready.1 Y
    have ag:∀e∈oj.after,Region.binds md e=true->e.on≠i:=fun e he hb ah=>by
     have h1:=aa e he hb;rw[ah,getD_both B]at h1;cases h1
    have h2:=qOp_put Z (E j oj Z z M ag) (fun cs b=>U i oi cs b hi) (fun cs b=>U j oj cs b Z) hy h1
    have I:∀k ok,ops[k]?=some ok->k≠i->(y.setIfInBounds j true).getD k true=false ->
     (∀e∈ok.after,Region.binds md e=true->e.on≠i)->oi.apart ops ok=true:=fun k ok hk ai B aj=>by
     refine E k ok hk ai ?_ aj;by_cases af:j=k
     ·subst af;exact M
     ·rw[getD_set_ne true af]at B;exact B
    refine qOp_mono (fun a' h3=>ih (y.setIfInBounds j true) a' (K.set Y J) I (ready_mono O (Ne.symm z)) h3.1 ?_) h2;rw[XW _ _ z];exact h3.2
theorem yc {n g:Nat}{K:Act->Prop}(B:Region.noSelect ops=true)(Y:Region.sinkB md ops n=true)(V:Region.chainB md ops n=true)(hn:n<ops.size) :
 ∀(l:List Oper)(k:Nat)(y:Array Bool)(a:Act),(∀j,j<l.length->l[j]?=ops[k+j]?)->k+l.length=n->HeadInv md ops n y ->
 Region.lexHead md ops g l.length k y=true->wpQuiet P ops C K l a ->
 wg P md ops C n (fun z U=>Region.seqB md ops g n z=true/\K U) l.length y a
 | [],k,y,a,_,hk,_,hB,h=>by
   have:k=n:=by simpa using hk
   subst this;exact⟨by simpa [Region.lexHead]using hB,h⟩
 | o::l,k,y,a,hl,hk,inv,hB,h=>by
   have J:ops[k]?=some o:=by simpa using (hl 0 (by simp)).symm
   simp only[List.length_cons,Region.lexHead,Yg]at hB;obtain⟨⟨hr,hf⟩,M⟩:=hB;have E:k<n:=by simp only[List.length_cons]at hk;omega
   have I:k∈Region.ready md ops y:=by simpa using hr
   have O:qOp P ops C k (wpQuiet P ops C K l) a:=by unfold qOp;simp only[J];exact h
   obtain⟨v,hy,Z⟩:=yieldsIn_of_qOp J O
   exact BF J (Region.noSelect_spec B) Y V hn E (fun z U hL=>seqB_ready hL.1) l.length y a inv (Region.free_spec J hf) I hy
    (yc B Y V hn l (k+1) _ _ (fun j hj=>by have:=hl (j+1) (by simp;omega);simpa [YB,XR 1 j]using this) (by simp only[List.length_cons]at hk;omega) (inv.set I E) M Z)
theorem qL {Q:Exit->Act->World->Prop}{a:Act}{w:World}{l:List Oper}(n:Nat)(V:Region.lexTailB .any l.toArray n=true)(hC:C w.drew)
 (h:wpQuiet P l.toArray C (fun M=>∀K,C K->wpList P l.toArray Q (l.drop n) M K) (l.take n) a):wpAny P .any l.toArray Q l.toArray.size (Array.replicate l.toArray.size false) a w.drew:=by
 simp only[Region.lexTailB,Yg,decide_eq_true_eq]at V;obtain⟨⟨⟨⟨I,hn⟩,hs⟩,hc⟩,E⟩:=V;have aa:n<l.length:=by simpa using hn
 have y:(l.take n).length=n:=by simp;omega
 have B:(l.drop n).length=l.toArray.size-n:=by simp
 have J:HeadInv .any l.toArray n (Array.replicate l.toArray.size false) :=
  ⟨by simp,fun j oj _ hl=>(by rw[getD_replicate_false]at hl;cases hl),fun t _ ht=>getD_in (by simpa using ht) (getD_replicate_false _ _)⟩
 have H:=yc (md:=.any) (g:=l.toArray.size-n) I hs hc hn (l.take n) 0 _ a (fun j Z=>by
  have O:j<n:=by rw[y]at Z;exact Z
  simp[O]) (by simpa using y) J (by rw[y];exact E) h
 have:=tm (Q':=Q) (g:=l.toArray.size-n) (fun z M K U Y=>by
  have:=wpAny_of_seq (md:=.any) (Q':=Q) (l.drop n) n z M K (fun j=>by simp[]) (by rw[B];exact Y.1) (Y.2 K U)
  rwa [B]at this) _ _ _ _ hC H
 rw[y,show n+(l.toArray.size-n)=l.toArray.size by omega]at this;exact this
theorem j6 {J:Nat}{Q:Exit->Act->World->Prop}{a:Act}{w:World}{l:List Oper}(n:Nat)(I:P.follows .mixedOrders=true)(B:Region.lexTailB .any l.toArray n=true)(E:C w.drew)
 (h:wpQuiet P l.toArray C (fun z=>∀y,C y->wpList P l.toArray Q (l.drop n) z y) (l.take n) a):(Code.region J l.toArray true).wp P Q a w :=
 wp_region_any I (qL n B E h)
end
end Go.Sl
namespace Go.Proofs.YtdfppjcaelghhaaGreatDoor
open Go.RowKit Go.Sl
theorem dv {P:Program}{I:Nat}{Q:Exit->Act->World->Prop}{a:Act}{w w0:World}{S:ba}{l:List Oper}(n:Nat)(m:Mod w w0 S)(E:P.follows .mixedOrders=true)(B:Region.lexTailB .any l.toArray n=true)
 (h:wpQuiet P l.toArray (fun y=>∃s:jO w0 S,y=s.world) (fun z=>∀y,(∃s:jO w0 S,y=s.world)->wpList P l.toArray Q (l.drop n) z y) (l.take n) a):(Code.region I l.toArray true).wp P Q a w :=
 j6 (C:=fun y=>∃s:jO w0 S,y=s.world) n E B ⟨⟨w.drew,Mod.drew (m:=m)⟩,rfl⟩ h
end Go.Proofs.YtdfppjcaelghhaaGreatDoor
namespace Go.Sl
open Go
section
variable {P:Program}{ops:Array Oper}{md:Region.Mode}{l n:Nat}{Q:Exit->Act->World->Prop}
theorem De {o:Oper}{a:Act}{w:World}{next:Act->World->Prop}(hd:∀c,o.op ≠ .defer c)(h:o.wp P a w next Q):o.wpIn (Fence.wide.inRound l) n P a w next Q:=by
 unfold Oper.wpIn Oper.wp at *;refine⟨fun _ _=>trivial,?_⟩;rw[Oper.semAt_plain (Fence.wide.inRound l) _ _ hd];generalize (execOp a.eval o).run P w=r at *
 cases r with
 | ok x y =>
   cases x with
   | value v=>exact h
   | skip=>exact h
   | defer d=>exact h
   | enter f args=>exact⟨fun h=>by simp[Fence.wide]at h,CallsIn.inRound l (callsIn_wide.2 h)⟩
   | row r args=>exact⟨fun h=>by simp[Fence.wide]at h,fun c cs _=>let ⟨v,y,r,s⟩:=h c cs;⟨v,y,r,stepsIn_wide.2 s⟩⟩
   | round=>exact h.elim
   | _=>exact h
 | halt x y=>cases x <;> exact h
def oq (ops:Array Oper):Bool:=ops.toList.all fun o=>match o.op with | .defer _=>false | _=>true
theorem Bv (h:oq ops=true){i:Nat}{o:Oper}(z:ops[i]?=some o)(c:Call):o.op ≠ .defer c:=by
 intro y
 have:=Xx.1 h o (by
  have:=Array.mem_of_getElem? z
  exact Array.mem_def.1 this)
 rw[y]at this;cases this
theorem wi (z:¬LetsOut Q)(hd:oq ops=true){i:Nat}{K:Act->World->Prop}{a:Act}{w:World}(h:wpOp P ops Q i K a w):wpOpIn (Fence.wide.inRound l) n P ops Q i K a w:=by
 unfold wpOpIn;unfold wpOp at h
 cases y:ops[i]? with
 | none=>simp only[y]at h ⊢;exact h
 | some o =>
   simp only[y]at h ⊢
   split
   ·rename_i hw
    simp only[hw,if_true]at h;rcases h with h | h
    ·exact De (Bv hd y) h
    ·exact absurd h.2 z
   ·rename_i hw
    simp only[hw]at h;exact⟨fun _ _=>trivial,h⟩
theorem oa (z:¬LetsOut Q)(hd:oq ops=true):∀(f:Nat)(y:Array Bool)(a:Act)(w:World),wpAny P md ops Q f y a w->wpAnyIn (Fence.wide.inRound l) n P md ops Q f y a w
 | 0,_,_,_,h=>h
 | f+1,_,_,_,h=>⟨h.1,fun i B=>wi z hd (wpOp_mono (fun a w=>oa z hd f _ a w) (h.2 i B))⟩
theorem ue (y:¬LetsOut Q)(hd:oq ops=true):∀(k:List Nat)(a:Act)(w:World),wpOps P ops Q k a w->wpOpsIn (Fence.wide.inRound l) n P ops Q k a w
 | [],_,_,h=>h
 | i::k,a,w,h=>by
   rw[wpOps_cons]at h;rw[wpOpsIn_cons];exact wi y hd (wpOp_mono (fun a w=>ue y hd k a w) h)
end
end Go.Sl
namespace Go.Proofs.YtdfppjcaelghhaaGreatDoor
open Go.RowKit Go.Sl
theorem tp {P:Program}{J K k:Nat}{Q:Exit->Act->World->Prop}{a:Act}{w w0:World}{S:ba}{l:List Oper}(n:Nat)(m:Mod w w0 S)(E:P.follows .mixedOrders=true)(B:Region.lexTailB .any l.toArray n=true)(hd:oq l.toArray=true)(I:¬LetsOut Q)
 (h:wpQuiet P l.toArray (fun y=>∃s:jO w0 S,y=s.world) (fun z=>∀y,(∃s:jO w0 S,y=s.world)->wpList P l.toArray Q (l.drop n) z y) (l.take n) a):(Code.region J l.toArray true).wpIn (Fence.wide.inRound K) k P Q a w :=
 wpIn_region_any E (oa I hd _ _ _ _ (qL (C:=fun y=>∃s:jO w0 S,y=s.world) n B ⟨⟨w.drew,Mod.drew (m:=m)⟩,rfl⟩ h))
def jy (P:Program)(md:Region.Mode)(ops:Array Oper)(Q:Exit->Act->World->Prop)(S:World->Prop)(n:Nat):Nat->Array Bool->Act->World->Prop
 | 0,listed,a,w=>Region.ready md ops listed=[]/\Q .normal a w
 | f+1,listed,a,w=>(Region.ready md ops listed=[]->Q .normal a w)/\∀i∈Region.ready md ops listed,wpOp P ops Q i (fun z y=>(i=n\/S y)/\jy P md ops Q S n f (listed.setIfInBounds i true) z y) a w
def tj (md:Region.Mode)(ops:Array Oper)(n i:Nat):Bool:=match ops[n]? with
 | some o=>o.after.any fun e=>Region.binds md e&&e.on==i
 | none=>false
section
variable {P:Program}{ops:Array Oper}{Q:Exit->Act->World->Prop}{md:Region.Mode}{S:World->Prop}{n:Nat}
theorem uS:∀(f:Nat)(y:Array Bool)(a:Act)(w:World),jy P md ops Q S n f y a w->wpAny P md ops Q f y a w
 | 0,_,_,_,h=>h
 | f+1,_,_,_,h=>⟨h.1,fun i B=>wpOp_mono (fun z E h'=>uS f _ z E h'.2) (h.2 i B)⟩
theorem KZ {i:Nat}{y:Array Bool}(B:tj md ops n i=true)(K:i∈Region.ready md ops y):n ∉ Region.ready md ops y:=fun hn=>by
 obtain⟨_,o,O,z⟩:=mem_ready.1 hn;have J:=(mem_ready.1 K).1;unfold tj at B;rw[O]at B;simp only[Array.any_eq_true]at B;obtain⟨k,M,I⟩:=B;simp only[Yg,beq_iff_eq]at I;have E:=z _ (Array.getElem_mem M) I.1;rw[I.2]at E;rw[getD_both J]at E;cases E
theorem Ds {i:Nat}{O:Oper}{v:Value}(hi:ops[i]?=some O)(ak:tj md ops n i=true)(au:i≠n)(K:∀(j:Nat)(o:Oper) cs b,ops[j]?=some o->o.op ≠ .select cs b)
 (hQ:∀c a w,Q (.panic c) (a.put O.dst v) w->Q (.panic c) a w) :
 ∀(f:Nat)(y:Array Bool)(a:Act)(w:World),
  (∀j U,ops[j]?=some U->j≠i->y.getD j true=false->(∀e∈U.after,Region.binds md e=true->e.on≠i)->O.apart ops U=true) ->
  i∈Region.ready md ops y->YieldsIf P ops S O v a->S w ->
  jy P md ops Q S n f (y.setIfInBounds i true) (a.put O.dst v) w->jy P md ops Q S n (f+1) y a w:=by
 intro f
 induction f with
 | zero =>
   intro y a w _ J hy V H;refine⟨fun h=>(by rw[h]at J;cases J),fun j hj=>?_⟩;by_cases z:j=i
   ·subst z;exact hy.wpOp hi V ⟨.inr V,H⟩
   ·have:=ready_mono hj z
    rw[H.1]at this;cases this
 | succ f ih =>
   intro y a w B J hy V H;refine⟨fun h=>(by rw[h]at J;cases J),fun j hj=>?_⟩;by_cases z:j=i
   ·subst z;exact hy.wpOp hi V ⟨.inr V,H⟩
   ·have ah:j≠n:=fun e=>KZ ak J (e▸hj)
    have h1:=H.2 j (ready_mono hj z);obtain⟨I,U,M,Z⟩:=mem_ready.1 hj
    have ae:∀e∈U.after,Region.binds md e=true->e.on≠i:=fun e he hb ag=>by
     have h1:=Z e he hb;rw[ag,getD_both (mem_ready.1 J).1]at h1;cases h1
    have h2:=wpOp_putIf M (B j U M z I ae) (fun cs b=>K i O cs b hi) (fun cs b=>K j U cs b M) hQ hy h1
    have E:∀k ok,ops[k]?=some ok->k≠i->(y.setIfInBounds j true).getD k true=false ->
     (∀e∈ok.after,Region.binds md e=true->e.on≠i)->O.apart ops ok=true:=fun k ok hk ai af aj=>by
     refine B k ok hk ai ?_ aj;by_cases aa:j=k
     ·subst aa;exact I
     ·rw[getD_set_ne true aa]at af;exact af
    refine wpOp_mono (fun a' w' h3=>?_) h2;have Y:S w':=h3.2.1.resolve_left ah;refine⟨.inr Y,ih (y.setIfInBounds j true) a' w' E (ready_mono J (Ne.symm z)) h3.1 Y ?_⟩;rw[XW _ _ z];exact h3.2.2
theorem cj (i:Nat)(d:Option Tmp){z:Oper}{v:Value}{f:Nat}{y:Array Bool}{a:Act}{w:World}(I:ops[i]?=some z)(hd:z.dst=d)(E:tj md ops n i=true)(B:i≠n)
 (U:Region.noSelect ops=true) (M:Region.free md ops y i=true) (O:(Region.ready md ops y).contains i=true)
 (J:∀c a w,Q (.panic c) (a.put z.dst v) w->Q (.panic c) a w) (V:YieldsIf P ops S z v a) (K:S w)
 (h:jy P md ops Q S n f (y.setIfInBounds i true) (a.put d v) w):jy P md ops Q S n (f+1) y a w:=by
 subst hd;exact Ds I E B (Region.noSelect_spec U) J f y a w (Region.free_spec I M) (by simpa using O) V K h
def am (P:Program)(md:Region.Mode)(ops:Array Oper)(Q:Exit->Act->World->Prop)(S:World->Prop)(n f:Nat)(y:Array Bool)(a:Act)(w:World)(rs:List Nat):Prop :=
 ∀i∈rs,wpOp P ops Q i (fun B z=>(i=n\/S z)/\jy P md ops Q S n f (y.setIfInBounds i true) B z) a w
theorem am.nil {f:Nat}{y:Array Bool}{a:Act}{w:World}:am P md ops Q S n f y a w []:=fun _ h=>by cases h
theorem am.cons (d:Option Tmp){f:Nat}{y:Array Bool}{a:Act}{w:World}{i:Nat}{o:Oper}{rs:List Nat}(M:ops[i]?=some o)(hd:o.dst=d)(K:o.guard=none)
 (h:∀z:Act->World->Prop,Shut (∀v w,S w->(S w->jy P md ops Q S n f (y.setIfInBounds i true) (a.put d v) w)->z (a.put d v) w)->Oper.wp P o a w z Q)
 (O:am P md ops Q S n f y a w rs):am P md ops Q S n f y a w (i::rs):=fun j B=>by
 rcases Zu.1 B with rfl | B
 ·subst hd
  refine wpOp_step M (fun z I=>?_);have:Region.wanted o (yielded ops a.tmps)=true:=by unfold Region.wanted;rw[K]
  rw[if_pos this];exact h z (fun v w E J=>I _ w ⟨.inr E,J E⟩)
 ·exact O j B
theorem am.last (d:Option Tmp){f:Nat}{y:Array Bool}{a:Act}{w:World}{o:Oper}(K:ops[n]?=some o)(hd:o.dst=d)(I:o.guard=none)
 (h:∀z:Act->World->Prop,Shut (∀v w,jy P md ops Q S n f (y.setIfInBounds n true) (a.put d v) w->z (a.put d v) w)->Oper.wp P o a w z Q):am P md ops Q S n f y a w [n]:=fun j J=>by
 obtain rfl:=ZE.1 J;subst hd;refine wpOp_step K (fun z B=>?_);have:Region.wanted o (yielded ops a.tmps)=true:=by unfold Region.wanted;rw[I]
 rw[if_pos this];exact h z (fun v w E=>B _ w ⟨.inl rfl,E⟩)
theorem aw {rs:List Nat}{f:Nat}{y:Array Bool}{a:Act}{w:World}(B:Region.ready md ops y=rs)(z:rs≠[])
 (h:am P md ops Q S n f y a w rs):jy P md ops Q S n (f+1) y a w:=⟨fun E=>absurd (B▸E) z,B▸h⟩
theorem fd {y:Array Bool}{a:Act}{w:World}(z:Region.ready md ops y=[])(h:Q .normal a w):jy P md ops Q S n 0 y a w:=⟨z,h⟩
end
theorem ud {P:Program}{E I k:Nat}{ops:Array Oper}{Q:Exit->Act->World->Prop}{a:Act}{w:World}(n:Nat)(S:World->Prop)(z:P.follows .mixedOrders=true)(hd:oq ops=true)(B:¬LetsOut Q)(y:S w.drew)
 (h:S w.drew->jy P .any ops Q S n ops.size (Array.replicate ops.size false) a w.drew):(Code.region E ops true).wpIn (Fence.wide.inRound I) k P Q a w :=
 wpIn_region_any z (oa B hd _ _ _ _ (uS _ _ _ _ (h y)))
theorem eS {P:Program}{B:Nat}{ops:Array Oper}{Q:Exit->Act->World->Prop}{a:Act}{w:World}(n:Nat)(S:World->Prop)(z:P.follows .mixedOrders=true)(y:S w.drew)
 (h:S w.drew->jy P .any ops Q S n ops.size (Array.replicate ops.size false) a w.drew):(Code.region B ops true).wp P Q a w :=
 wp_region_any z (uS _ _ _ _ (h y))
theorem cI {P:Program}{w w0:World}{E F:ba}{o:Oper}{a:Act}{K:Act->World->Prop}{Q:Exit->Act->World->Prop}{s x:Operand}{t:TypeId}{e:TypeId}{bytes:Nat} [T:wl P t e bytes]
 (ho:o.op=.call {callee:=.builtin .append,args:=#[s,x],argTypes:=#[t,t]}) (m:Mod w w0 E) {v:Value} {n:Nat} {xs:List Value} (hs:a.eval s=v) [tk:eM E (fun q:Nat×List Value=>ar e 1 v q.1 q.2) (n,xs) F]
 {A:Option Addr} {k c:Nat} {news:List Value} (hx:a.eval x=.slice A k c) [r:bk E A k news] (I:∀u∈news,u.oneCell'=true) (O:n+k<=maxLen) (y:(n+k)*bytes<=140737488355328)
 (h:∀A' c' M,Mod M w0 (ar e 1 (.slice A' (n+k) c') (n+k) (xs++news)*F)->K (a.put o.dst (.slice A' (n+k) c')) M):o.wp P a w K Q:=by
 obtain⟨i,z,hi,hz,B,U,Y⟩:=T.get;have e0:E=ar e 1 v n xs*F:=tk.eq;obtain⟨v',M,J,Z,_⟩:=s5 (P:=P) (S:=E) t o.type e i z bytes T.ht hi hz B U Y v n xs (Mod.to e0 (m:=m)) A k c news I O y;unfold Oper.wp execOp;simp only[ho,resolve,invoke,builtin,Sem.run_bind,Sem.run_pure,Result.andThen_ok,Y0,Zy,Ye,hs,hx,J]
 have V:∃A' c',v'=.slice A' (n+k) c':=by
  rcases (fW Z).2 with⟨I,h2⟩ | ⟨g,cap,aa,I,_⟩
  ·exact⟨none,0,by rw[I,h2]⟩
  ·exact⟨_,_,I⟩
 obtain⟨A',c',rfl⟩:=V;exact h A' c' M Z
theorem wpIn_region_list {P:Program}{z B k:Nat}{Q:Exit->Act->World->Prop}{a:Act}{w:World}{l:List Oper}(hd:oq l.toArray=true)(y:¬LetsOut Q)(h:wpList P l.toArray Q l a w):(Code.region z l.toArray false).wpIn (Fence.wide.inRound B) k P Q a w :=
 wpIn_region (ue y hd _ _ _ (by rw[List.range_eq_range',Zl,wpOps_eq_wpList l 0 (by simp)];exact h))
open Go.RowKit Go.Sl
attribute [local go_sem] ab bh bd kY
theorem o8 (p:Nat)(w w0:World)(S:ba)(m:Mod w w0 S)(hp:p<=9223372036854775807):Calls Tryz.prog 125 #[.int .i64 (p:Int)] w fun e B=>e=.returned (.int .i64 (cg p:Int))/\Mod B w0 S:=by
 by_cases h:128-p%128<=7
 ·have y:(cg p:Int)=128-(p:Int)%128:=by unfold cg;rw[if_pos h];omega
  have z:=zbj y;clear y;go_enter Tryz.func125,Tryz.ntmps125
  go_wp2
  go_ret
  exact⟨by rw[z.out];rfl,m⟩
 ·have y:cg p=0:=by unfold cg;rw[if_neg h]
  have z:=zbj y;clear y;go_enter Tryz.func125,Tryz.ntmps125
  go_wp2
  go_ret
  exact⟨by rw[z.out];rfl,m⟩
theorem Nb (v c:Nat)(B:v<16777216)(z:c<256):bits .or .u32 ((v:Int)*256) (c:Int)=((v*256+c:Nat):Int):=by
 have y:((v:Int)*256)=((v*256:Nat):Int):=oMg
 rw[y,u32_or_nat _ _ oMg oMg,nat_join 8 (v*256) c oMg oMg]
def oy (l:List UInt8)(k:Nat):Nat:=(l.take k).foldl (fun n c=>n*256+c.toNat) 0
theorem Ij (l:List UInt8)(k:Nat):k<l.length->oy l (k+1)=oy l k*256+(l.getD k 0).toNat:=fun h=>by
 unfold oy;rw[Zx h,Xg,Zw,Zg h];rfl
theorem MD (l:List UInt8):∀k,k<4->oy l k<16777216:=by
 have key:∀k,k<=l.length->oy l k<256 ^ k:=by
  intro k
  induction k with
  | zero=>intro _;simp[oy]
  | succ k y =>
    intro h;rw[Ij l k oMg];have z:=y oMg;have B:=(l.getD k 0).toNat_lt;rw[Nat.pow_succ];omega
 intro k E;by_cases h:k<=l.length
 ·exact Nat.lt_of_lt_of_le (key k h) (XQ oMg (show k<=3 by omega))
 ·have e:oy l k=oy l l.length:=by unfold oy;rw[Zn oMg,Xc]
  rw[e];exact Nat.lt_of_lt_of_le (key _ (Zm _)) (XQ oMg (show l.length<=3 by omega))
theorem vz (B:Option Addr)(n c:Nat)(y z E I:UInt8)(l:List UInt8)(w w0:World)(S:ba)(m:Mod w w0 S)(r:bk S B n (b7 (y::z::E::I::l)))(hn:n<=9223372036854775807)(M:n<=c) :
 Calls Tryz.prog 176 #[.slice B n c] w fun e w'=>e=.returned (.tuple #[.int .u32 (sM y z E I:Int),.int .i64 0])/\Mod w' w0 S:=by
 have hl:=fp m r;rw[fg]at hl;simp only[List.length_cons]at hl;go_enter Tryz.func176,Tryz.ntmps176
 have hB:∃J K,B=some ⟨J,K,none⟩/\∀j u,(b7 (y::z::E::I::l))[j]?=some u->w.cell? ⟨J,K+j,none⟩=some u:=by
  obtain⟨ad,hB,U,M⟩:=cP m r oMg;obtain⟨J,K,ai⟩:=ad;simp only at U;subst U;exact⟨J,K,hB,M⟩
 obtain⟨J,K,rfl,M⟩:=hB
 have hx:∀k:Nat,k<4->∃x:UInt8,w.cell? ⟨J,K+k,none⟩=some (.int .u8 (x.toNat:Int))/\oy [y,z,E,I] (k+1)=oy [y,z,E,I] k*256+x.toNat:=fun k V=>by
  have e:∀k,k<4->∃x:UInt8,(b7 (y::z::E::I::l))[k]?=some (.int .u8 (x.toNat:Int))/\oy [y,z,E,I] (k+1)=oy [y,z,E,I] k*256+x.toNat:=by
   intro k V
   match k,V with
   | 0,_=>exact⟨y,rfl,rfl⟩
   | 1,_=>exact⟨z,rfl,rfl⟩
   | 2,_=>exact⟨E,rfl,rfl⟩
   | 3,_=>exact⟨I,rfl,rfl⟩
  obtain⟨x,h1,h2⟩:=e k V;exact⟨x,M k _ h1,h2⟩
 have Hx:=zbj hx
 have H4:Hid (oy [y,z,E,I] 4=sM y z E I):=by
  show _=_;simp only[oy,sM,List.take,List.foldl_cons,List.foldl_nil];omega
 have Y:=zbj (MD [y,z,E,I]);clear hx M;generalize [y,z,E,I]=L at *;go_wp2
 go_loopg [2,12] 4 (fun gk v i wr=>∃k:Nat,k<=4/\gk=4-k/\i=.int .i64 (k:Int)/\v=.int .u32 ((oy L k:Nat):Int)/\wr=w)
 case atStart=>exact⟨0,oMg,rfl,rfl,rfl,rfl⟩
 case round =>
  obtain⟨k,V,ag,rfl,rfl,rfl⟩:=hrel;by_cases O:k<4
  ·obtain⟨x,aa,hs⟩:=Hx.out k O
   have Hs:=zbj hs;clear hs;have ah:(k:Int)<4:=oMg
   have hb:=Y.out k O;have ae:=x.toNat_lt;generalize oy L k=v at *;have Z:=zbj (Nb v x.toNat hb ae);go_wp2
   go_roundg (4-(k+1))
   case measure=>omega
   case rel=>exact⟨k+1,oMg,rfl,by go_num,by rw[Hs.out,Z.out],rfl⟩
  ·have af:k=4:=oMg
   subst af;rw[H4.out];go_wp2
   go_ret2
   exact⟨rfl,m⟩
theorem LD (n:Nat)(w w0:World)(S:ba)(m:Mod w w0 S)(hn:n<=140737488355328):Calls Tryz.prog 228 #[.slice none 0 0,.int .i64 (n:Int)] w fun e w'=>∃A' c,e=.returned (.slice A' 0 c)/\Mod w' w0 (ar 5 1 (.slice A' 0 c) 0 []*S):=by
 rcases YD n with B | B
 ·subst B
  go_enter Tryz.func228,Tryz.ntmps228
  go_wp2
  go_ret
  exact⟨none,0,rfl,lS m⟩
 ·have M:(0:Int)<(n:Int):=oMg
  obtain⟨i,K,Y,hs,I⟩:=It;go_enter Tryz.func228,Tryz.ntmps228
  have z:=Lib.run_append_nil_zeros (P:=Tryz.prog) w 67 3 67 5 i (.int .u8 0) .i64 .i64 Tryz.underlying67 Tryz.underlying3 K Y n B oMg oMg (by rw[I];omega);generalize O:(Value.slice (some ⟨w.heap.size,0,none⟩) n (grownCap w n 0 5))=v at z;generalize U:(w.drew.alloc (.cells (Builtin.zeroCells (Value.int .u8 0).cells n++Builtin.zeroCells (Value.int .u8 0).cells (grownCap w n 0 5-n)) 5))=w2 at z;go_wp2_with (at_builtin;refine Lib.wpList_append_run w rfl _ _ 67 3 rfl (.slice none 0 0) (.int .i64 (n:Int)) rfl rfl v w2 z ?_;subst O)
  subst U;go_ret
  refine⟨_,_,rfl,?_⟩;have J:=grownCap_ge w n 0 5;have E:=grownCap_le_maxLen w n 0 5 (by unfold maxLen;omega);have Z:Mod (w.drew.alloc (.cells (Builtin.zeroCells (Value.int .u8 0).cells n++Builtin.zeroCells (Value.int .u8 0).cells (grownCap w n 0 5-n)) 5)) w0 (aE w.heap.size (.cells (Builtin.zeroCells (Value.int .u8 0).cells n++Builtin.zeroCells (Value.int .u8 0).cells (grownCap w n 0 5-n)) 5 (0,0))*S):=Mod.alloc (m:=Mod.drew (m:=m)) (hn:=⟨rfl⟩) _;refine Mod.conv (m:=Z) fun _ h=>lF (A':=ar 5 1 (.slice (some ⟨w.heap.size,0,none⟩) 0 (grownCap w n 0 5)) 0 []) (fun y V=>⟨rfl,.inr ⟨w.heap.size,_,_,rfl,Zv _,E,?_,by simp,V⟩⟩) h;rw[Array.size_append,size_zeroCells,size_zeroCells];show n*1+(grownCap w n 0 5-n)*1=_;omega
theorem LB (n:Nat)(N:Int)(y:N=n)(w w0:World)(S:ba)(m:Mod w w0 S)(hn:n<=140737488355328):Calls Tryz.prog 228 #[.slice none 0 0,.int .i64 N] w fun e z=>∃A' c,e=.returned (.slice A' 0 c)/\Mod z w0 (ar 5 1 (.slice A' 0 c) 0 []*S):=by
 subst y;exact LD n w w0 S m hn
theorem FR (B:Option Addr)(n c:Nat)(xs:List UInt8)(g:Nat)(z:List UInt8)(w w0:World)(S:ba)(m:Mod w w0 S)(r:bk S B n (b7 xs))(y:Nat)(k E:Nat)(hh:jq S g (.cells #[.slice B n c,.slice (some ⟨y,0,none⟩) k E] 67 (0,0)))(r2:bk S (some ⟨y,0,none⟩) k (b7 z))(hn:n+k<=140737488355328) :
 Calls Tryz.prog 168 #[.slice (some ⟨g,0,none⟩) 2 2] w fun e w'=>∃A' c',e=.returned (.slice A' (n+k) c')/\Mod w' w0 (ar 5 1 (.slice A' (n+k) c') (n+k) (b7 (xs++z))*S):=by
 go_enter Tryz.func168,Tryz.ntmps168
 go_wp2
 refine wp_loop_rounds 3 ?_;rw[rounds_succ];go_wp2
 rw[rounds_succ];go_wp2
 rw[rounds_succ];go_wp2_with (go_at_call 228;refine(LB (n+k) _ oMg _ w0 S m hn).mono ?_;rintro e w1 ⟨K,U,rfl,Z⟩)
 refine wp_loop_rounds 3 ?_;rw[rounds_succ];go_wp2_with (at_builtin;(refine cS (v:=.slice K 0 U) (A:=B) (k:=n) (c:=c) (news:=b7 xs) (r:=zbk) rfl rfl Z rfl rfl (io _) (by unfold maxLen;omega) oMg ?_);intro M V w2 I;simp only[ZM,List.nil_append,b9]at I)
 rw[rounds_succ];go_wp2_with (at_builtin;(refine cS (v:=.slice M n V) (A:=some ⟨y,0,none⟩) (k:=k) (c:=E) (news:=b7 z) (r:=zbk) rfl rfl I rfl rfl (io _) (by unfold maxLen;omega) oMg ?_);intro O Y w3 J;simp only[b9]at J)
 rw[rounds_succ];go_wp2
 go_ret
 refine⟨O,Y,rfl,?_⟩;rw[eC];exact J
theorem zI (B:Option Addr)(n c:Nat)(xs:List UInt8)(g:Nat)(z:List UInt8)(w w0:World)(S:ba)(m:Mod w w0 S)(r:bk S B n (b7 xs))(y:Nat)(k E:Nat)(K:jq S g (.cells #[.slice B n c,.slice (some ⟨y,0,none⟩) k E] 67 (0,0)))(O:bk S (some ⟨y,0,none⟩) k (b7 z))(hn:n+k<=140737488355328) :
 Calls Tryz.prog 115 #[.slice (some ⟨g,0,none⟩) 2 2] w fun e U=>∃A' c',e=.returned (.slice A' (n+k) c')/\Mod U w0 (ar 5 1 (.slice A' (n+k) c') (n+k) (b7 (xs++z))*S):=by
 go_enter Tryz.func115,Tryz.ntmps115
 go_wp2_with (go_at_call 168;refine(FR B n c xs g z _ w0 S m r y k E K O hn).mono ?_;rintro e w1 ⟨I,J,rfl,M⟩)
 go_ret
 exact⟨I,J,rfl,M⟩
theorem Gd (v:Nat)(y:v<4294967296):#[Value.int .u8 ((v:Int) / 16777216),.int .u8 ((v:Int) / 65536%256),.int .u8 ((v:Int) / 256%256),.int .u8 ((v:Int)%256)].toList=b7 (ff v):=by
 have e:v / 16777216%256=v / 16777216:=oMg
 simp[b7,ff,e]
theorem lE (B:Option Addr)(n c:Nat)(xs:List UInt8)(v:Nat)(E:v<4294967296)(w w0:World)(S:ba)(m:Mod w w0 S)(r:bk S B n (b7 xs))(hn:n+4<=140737488355328) :
 Calls Tryz.prog 126 #[.slice B n c,.int .u32 (v:Int)] w fun e J=>∃A' c',e=.returned (.slice A' (n+4) c')/\Mod J w0 (ar 5 1 (.slice A' (n+4) c') (n+4) (b7 (xs++ff v))*S):=by
 go_enter Tryz.func126,Tryz.ntmps126
 go_wp2_with (go_at_call 115;refine(zI B n c xs _ (ff v) _ w0 _ zbk zbk w.heap.size 4 4 zbk (ce (Gd v E) rfl) hn).mono ?_;rintro e w1 ⟨y,z,rfl,I⟩)
 go_ret
 exact⟨y,z,rfl,IJ (Nd 5 1 (.slice y (n+4) z)) I⟩
structure Pt where
 kind:UInt8
 at_:Option Addr
 n:Nat
 cap:Nat
 piece:List UInt8
 gap:Nat
def Pt.out (x:Pt):List UInt8:=eA x.gap++oF x.kind x.piece
def Pt.vals (x:Pt):Array Value:=#[.int .u8 (x.kind.toNat:Int),.slice x.at_ x.n x.cap]
def jQ (l:List Pt):List UInt8:=l.flatMap Pt.out
theorem kI (l:List Pt)(x:Pt):jQ (l++[x])=jQ l++x.out:=by simp[jQ]
def toCome (p:Nat)(begun:Bool)(r:List UInt8):List UInt8:=if begun&&r.isEmpty then []else fz p (!begun) r
theorem toCome_end (p:Nat):toCome p true []=[]:=rfl
theorem toCome_step (p:Nat)(begun:Bool)(r:List UInt8)(h:begun=false\/0<r.length) :
 toCome p begun r=eA (cg p)++oF (ke (!begun) (decide (gh p r=r.length))) (r.take (gh p r))++toCome (p+cg p+7+gh p r) true (r.drop (gh p r)):=by
 have e:toCome p begun r=fz p (!begun) r:=by
  unfold toCome;rw[if_neg];intro y;simp only[Yg,Xn]at y;rcases h with h | h
  ·rw[h]at y;cases y.1
  ·rw[y.2]at h;simp at h
 rw[e,pW,Zr]
 congr 2
 have B:=oM p r;by_cases z:gh p r=r.length
 ·rw[if_pos z,z,List.drop_length];rfl
 ·rw[if_neg z]
  unfold toCome;rw[if_neg]
  ·rfl
  ·intro y
   simp only[za7,Xn]at y;have:=congrArg List.length y;rw[ZF,List.length_nil]at this;omega
theorem sP:∀(n:Nat)(p:Nat)(first:Bool)(r:List UInt8),r.length<=n->(fz p first r).length<=15*r.length+14
 | 0,p,first,r,h=>by
   have z:r=[]:=Zo oMg;subst z;have y:gh p []=0:=by simp[gh]
   have:=kP p;rw[pW,y];simp[eA,gd];omega
 | n+1,p,first,r,h=>by
   have E:=kP p;have I:=oM p r;rw[pW];by_cases y:gh p r=r.length
   ·rw[if_pos y]
    simp[eA,gd];omega
   ·rw[if_neg y]
    have hp:=qr p r oMg;have B:=sP n (p+cg p+7+gh p r) false (r.drop (gh p r)) (by rw[ZF];omega);rw[ZF]at B;simp only[Ze,eA,Yh,gd,jH];omega
theorem pF (p:Nat)(r:List UInt8):(fz p true r).length<=15*r.length+14:=sP r.length p true r (Zm _)
structure Next (G:ba)(p:Nat)(rec:List UInt8)(pre:List Pt)(x:Pt):Prop where
 reads:bk G x.at_ x.n (b7 x.piece)
 len:x.piece.length=x.n
 cap:x.n<=x.cap
 gap:x.gap=cg (p+(jQ pre).length)
 small:x.n<=121
 tail:∃rest,fz p true rec=jQ pre++(x.out++rest)
theorem Next.length {G:ba}{p:Nat}{rec:List UInt8}{pre:List Pt}{x:Pt}(h:Next G p rec pre x):(jQ pre).length+x.gap+7+x.n<=15*rec.length+14:=by
 obtain⟨rest,e⟩:=h.tail;have y:=pF p rec;rw[e]at y;simp only[Ze,Pt.out,eA,Yh,gd,h.len]at y;omega
open Go.RowKit Go.Sl Go.Shelf
attribute [local go_sem] ab bh bd kY Oper.semAt_some
theorem GQ (p:Nat)(B:Option Addr)(n c:Nat)(w w0:World)(S:ba)(m:Mod w w0 S) :
 Calls Tryz.prog 124 #[.int .i64 (p:Int),.slice B n c] w fun e E=>∃y z,e=.returned (.func (.func 192) #[] #[ap z,ap y])/\Mod E w0 (aE z (.cells #[.slice B n c] 67 (0,0))*(aE y (.cells #[.int .i64 (p:Int)] 3 (0,0))*S)):=by
 go_enter Tryz.func124,Tryz.ntmps124
 go_wp2
 go_ret
 exact⟨_,_,rfl,zbk⟩
def wJ (begun:Bool):Array Value:=#[.int .u8 ((ke (!begun) false).toNat:Int),.int .u8 ((ke (!begun) true).toNat:Int)]
theorem pJ (N:Int)(p:Nat)(y:N=p)(w w0:World)(S:ba)(m:Mod w w0 S)(hp:p<=9223372036854775807):Calls Tryz.prog 125 #[.int .i64 N] w fun e z=>e=.returned (.int .i64 (cg p:Int))/\Mod z w0 S:=by
 subst y;exact o8 p w w0 S m hp
theorem nO {G:ba}{B:Option Addr}{n c:Nat}{l:List UInt8}(h:bk G B n (b7 l)){k:Nat}(K:k<=n)(J:n<=c):bk G (if c=k then B else B.map (fun x=>x.add k)) (n-k) (b7 (l.drop k)):=by
 by_cases e:c=k
 ·rw[if_pos e]
  have hn:n-k=0:=oMg
  rw[hn];refine⟨fun x y=>?_,fun x y z=>by omega⟩;have:=h.len x y;rw[fg]at this ⊢;rw[ZF];omega
 ·rw[if_neg e]
  have:=h.part k (n-k) oMg;have E:((b7 l).drop k).take (n-k)=b7 (l.drop k)->bk G (B.map (fun x=>x.add k)) (n-k) (b7 (l.drop k)):=fun e=>e▸this;refine⟨fun x y=>?_,fun x y z=>?_⟩
  ·have:=h.len x y
   rw[fg]at this ⊢;rw[ZF];omega
  ·have I:=h.len x y
   rw[fg]at I;refine(E ?_).cell x y z;rw[Zn (by rw[ZF,fg];omega)];simp[b7]
theorem GP (G:ba)(K pr p n c:Nat)(B:Option Addr)(rec:List UInt8)(r:bk G B n (b7 rec))(hn:rec.length=n)(hc:n<=c)(hb:p+15*n+14<=4611686018427387904)(w0:World) :
 Im Tryz.prog w0 192 #[ap pr,ap K] Pt.vals (fun _=>True) (aE pr (.cells #[.slice B n c] 67 (0,0))*aE K (.cells #[.int .i64 (p:Int)] 3 (0,0))) (fun _=>sC) (fun xs=>jQ xs=fz p true rec) (fun _=>True) (Next G p rec):=by
 intro l J Jx W _ hR m;show Calls Tryz.prog 192 #[.func (.yield l) #[] #[],ap pr,ap K] W _;go_enter Tryz.func192,Tryz.ntmps192
 go_wp2
 go_loopg [5] (n+1) (fun gk b wr=>∃(pre:List Pt)(q:Nat)(begun:Bool)(M:Option Addr)(E I:Nat)(rest:List UInt8),gk=E+(if begun then 0 else 1)/\b=.bool begun/\E<=I/\rest.length=E/\bk G M E (b7 rest)/\Hid (q=p+(jQ pre).length)/\Hid (fz p true rec=jQ pre++toCome q begun rest) /\
  Mod wr w0 (J pre*(aE pr (.cells #[.slice M E I] 67 (0,0))*(aE K (.cells #[.int .i64 (q:Int)] 3 (0,0))*aE W.heap.size (.cells (wJ begun) 262 (0,0))))))
 case atStart =>
  refine⟨[],p,false,B,n,c,rec,rfl,rfl,hc,hn,r,rfl,rfl,?_⟩;exact Mod.to (m:=(zbk:Mod _ w0 (aE W.heap.size (.cells (wJ false) 262 (0,0))*(J []*(aE pr (.cells #[.slice B n c] 67 (0,0))*aE K (.cells #[.int .i64 (p:Int)] 3 (0,0))))))) (by ac_rfl)
 case round =>
  obtain⟨pre,q,begun,M,E,I,rest,ax,rfl,ak,au,hr,Hq,Ht,m2⟩:=hrel;by_cases ah:begun=false\/0<E
  ·have av:=congrArg List.length Ht.out
   rw[toCome_step q begun rest (by rw[au];exact ah)]at av;have aK:=pF p rec;simp only[Ze,eA,Yh,gd]at av;rw[jH]at av;have aH:=Hq.out;have aI:q+cg q+7+gh q rest<=4611686018427387904:=oMg
   have aN:=sZ q;have aM:=kP q;clear av aK aH;have aF:∃a b:UInt8,wJ begun=#[.int .u8 (a.toNat:Int),.int .u8 (b.toNat:Int)]/\Hid (a=ke (!begun) false)/\Hid (b=ke (!begun) true):=⟨_,_,rfl,rfl,rfl⟩;obtain⟨a,b,hk,Ha,Hb⟩:=aF;rw[hk]at m2;clear hk;have aj:=zbj ax;clear ax;have y:=zbj au;clear au;obtain⟨k,Hk⟩:∃k,Hid (k=gh q rest):=⟨_,rfl⟩;rw[<-Hk.out]at aI;have aL:min (E:Int) (128-((q:Int)+(cg q:Int))%128-7)=(k:Int):=by rw[Hk.out];unfold gh;rw[y.out];omega
   have ai:k<=E:=by rw[Hk.out,<-y.out];exact oM q rest
   have HN:Hid (∀kd,kd=ke (!begun) (decide (k=E))->Next G p rec pre ⟨kd,M,k,I,rest.take k,cg q⟩):=fun kd aG=>by
    have aB:=toCome_step q begun rest (by rw[y.out];exact ah);rw[<-Hk.out,y.out,<-aG]at aB;refine⟨by have:=hr.pre k ai;rwa [show (b7 rest).take k=b7 (rest.take k)from by simp[b7]]at this,by show (rest.take k).length=k;rw[Zt,y.out];omega,by show k<=I;omega,by show cg q=cg (p+(jQ pre).length);rw[<-Hq.out],by show k<=121;rw[Hk.out];exact gQ q rest,toCome (q+cg q+7+k) true (rest.drop k),?_⟩;rw[Ht.out,aB];simp only[Pt.out,Zr]
   by_cases hw:k=E
   ·have ae:Hid (b=ke (!begun) (decide (k=E))):=by show _=_;rw[decide_eq_true hw];exact Hb.out
    have aJ:((k:Int)==(E:Int))=true:=by rw[beq_iff_eq];omega
    clear hw;cases begun
    ·go_wp2_with fail
     obtain⟨O,U,V⟩:∃O,O=_/\Mod wr w0 O:=⟨_,rfl,m2⟩;have ag:jq O K (.cells #[.int .i64 (q:Int)] 3 (0,0)):=by rw[U];infer_instance
     have HC:Hid (∀u,Mod u w0 O->Calls Tryz.prog 125 #[.int .i64 (q:Int)] u fun e w'=>e=.returned (.int .i64 (cg q:Int))/\Mod w' w0 O):=fun u mu=>o8 q u w0 O mu oMg;have Y:=zbj U;clear U;have:=jO.some V;refine dv 4 V kRf kRf ?_;simp only[List.take_succ_cons,List.take_zero,ZY,Z6]
     repeat (go_big_quiet_step ((go_at_call 125;refine cW (HC.out _ ?_);exact zbk)))
     refine wpQuiet_nil ?_;rintro w3 ⟨s,rfl⟩;have m3:=s.mod;clear HC V ag m2;generalize s.world=w3 at *;rw[Y.out]at m3;clear Y this s;go_upto_region 9 with(fail)
     have m4:Mod (w3.setCell ⟨K,0,none⟩ (.int .i64 ((q:Int)+(cg q:Int)))) w0 (J pre*(aE pr (.cells #[.slice M E I] 67 (0,0))*(aE K (.cells #[.int .i64 ((q:Int)+(cg q:Int))] 3 (0,0))*aE W.heap.size (.cells #[.int .u8 (a.toNat:Int),.int .u8 (b.toNat:Int)] 262 (0,0))))) :=
      Mod.to (m:=(zbk:Mod (w3.setCell ⟨K,0,none⟩ (.int .i64 ((q:Int)+(cg q:Int)))) w0 (aE K (.cells #[.int .i64 ((q:Int)+(cg q:Int))] 3 (0,0))*(J pre*(aE pr (.cells #[.slice M E I] 67 (0,0))*(sC*aE W.heap.size (.cells #[.int .u8 (a.toNat:Int),.int .u8 (b.toNat:Int)] 262 (0,0)))))))) (by rw[b9];ac_rfl)
     clear m3;generalize w3.setCell ⟨K,0,none⟩ (.int .i64 ((q:Int)+(cg q:Int)))=W1 at *;obtain⟨fn,tmps,z,Z,hy,aa⟩:=hR pre ⟨b,M,k,I,rest.take k,cg q⟩ _ W1 (HN.out b ae.out) m4;have hy:(Instr.yield l #[.int .u8 (b.toNat:Int),.slice M k I]).run Tryz.prog W1=.ok (.round l fn tmps z Z) W1:=hy;refine(wpIn_wide (n:=6)).1 ?_
     gi_wp2
     refine aa.mono ?_;rintro e W3 (⟨rfl,m5⟩ | ⟨rfl,m5⟩)
     ·gi_wp2
      clear aa hy hR HN m4;go_wp2_with fail
      have af:=nO hr ai ak;go_region
      generalize (if I=k then M else M.map (fun x=>x.add k))=B2 at *;go_wp2_with fail
      have m6:Mod (((((W3.setCell ⟨K,0,none⟩ (.int .i64 ((q:Int)+(cg q:Int)+7+(k:Int)))).setCell ⟨pr,0,none⟩ (.slice B2 (E-k) (I-k))).setCell ⟨W.heap.size,0,none⟩ (.int .u8 3)).setCell ⟨W.heap.size,1,none⟩ (.int .u8 4)).drew) w0 _:=zbk;go_roundg (E-k)
      case measure=>rw[aj.out];simp;omega
      case rel =>
       refine⟨pre++[⟨b,M,k,I,rest.take k,cg q⟩],q+cg q+7+k,true,_,E-k,I-k,rest.drop k,rfl,rfl,oMg,by rw[ZF,y.out],af,?_,?_,Mod.to (m:=m6) ?_⟩
       ·show _=_
        rw[kI,Ze,<-YB,<-Hq.out];simp only[Pt.out,Ze,eA,Yh,gd,Zt,y.out];omega
       ·show _=_
        rw[Ht.out,toCome_step q _ rest (by rw[y.out];exact .inl rfl),<-Hk.out,y.out,<-ae.out,kI];simp only[Pt.out,Zr]
       ·rw[show ((q+cg q+7+k:Nat):Int)=(q:Int)+(cg q:Int)+7+(k:Int)from by omega]
        simp only[b9,eI]
        ac_rfl
     ·gi_wp2
      go_wp2
      refine bodyPost_ret (results_none rfl _ _ _) rfl ?_;exact⟨⟨_,rfl⟩,.inr ⟨_,trivial,Mod.to (m:=Mod.lP (m:=m5)) (eI _).symm⟩⟩
    ·have h0:0<E:=by simpa using ah
     go_wp2_with fail
     obtain⟨O,U,V⟩:∃O,O=_/\Mod wr w0 O:=⟨_,rfl,m2⟩;have ag:jq O K (.cells #[.int .i64 (q:Int)] 3 (0,0)):=by rw[U];infer_instance
     have HC:Hid (∀u,Mod u w0 O->Calls Tryz.prog 125 #[.int .i64 (q:Int)] u fun e w'=>e=.returned (.int .i64 (cg q:Int))/\Mod w' w0 O):=fun u mu=>o8 q u w0 O mu oMg;have Y:=zbj U;clear U;have:=jO.some V;refine dv 4 V kRf kRf ?_;simp only[List.take_succ_cons,List.take_zero,ZY,Z6]
     repeat (go_big_quiet_step ((go_at_call 125;refine cW (HC.out _ ?_);exact zbk)))
     refine wpQuiet_nil ?_;rintro w3 ⟨s,rfl⟩;have m3:=s.mod;clear HC V ag m2;generalize s.world=w3 at *;rw[Y.out]at m3;clear Y this s;go_upto_region 9 with(fail)
     have m4:Mod (w3.setCell ⟨K,0,none⟩ (.int .i64 ((q:Int)+(cg q:Int)))) w0 (J pre*(aE pr (.cells #[.slice M E I] 67 (0,0))*(aE K (.cells #[.int .i64 ((q:Int)+(cg q:Int))] 3 (0,0))*aE W.heap.size (.cells #[.int .u8 (a.toNat:Int),.int .u8 (b.toNat:Int)] 262 (0,0))))) :=
      Mod.to (m:=(zbk:Mod (w3.setCell ⟨K,0,none⟩ (.int .i64 ((q:Int)+(cg q:Int)))) w0 (aE K (.cells #[.int .i64 ((q:Int)+(cg q:Int))] 3 (0,0))*(J pre*(aE pr (.cells #[.slice M E I] 67 (0,0))*(sC*aE W.heap.size (.cells #[.int .u8 (a.toNat:Int),.int .u8 (b.toNat:Int)] 262 (0,0)))))))) (by rw[b9];ac_rfl)
     clear m3;generalize w3.setCell ⟨K,0,none⟩ (.int .i64 ((q:Int)+(cg q:Int)))=W1 at *;obtain⟨fn,tmps,z,Z,hy,aa⟩:=hR pre ⟨b,M,k,I,rest.take k,cg q⟩ _ W1 (HN.out b ae.out) m4;have hy:(Instr.yield l #[.int .u8 (b.toNat:Int),.slice M k I]).run Tryz.prog W1=.ok (.round l fn tmps z Z) W1:=hy;refine(wpIn_wide (n:=6)).1 ?_
     gi_wp2
     refine aa.mono ?_;rintro e W3 (⟨rfl,m5⟩ | ⟨rfl,m5⟩)
     ·gi_wp2
      clear aa hy hR HN m4;go_wp2_with fail
      have af:=nO hr ai ak;go_region
      generalize (if I=k then M else M.map (fun x=>x.add k))=B2 at *;go_wp2_with fail
      have m6:Mod (((((W3.setCell ⟨K,0,none⟩ (.int .i64 ((q:Int)+(cg q:Int)+7+(k:Int)))).setCell ⟨pr,0,none⟩ (.slice B2 (E-k) (I-k))).setCell ⟨W.heap.size,0,none⟩ (.int .u8 3)).setCell ⟨W.heap.size,1,none⟩ (.int .u8 4)).drew) w0 _:=zbk;go_roundg (E-k)
      case measure=>rw[aj.out];simp only[if_true];have:=qr q rest (by rw[y.out];omega);rw[<-Hk.out]at this;omega
      case rel =>
       refine⟨pre++[⟨b,M,k,I,rest.take k,cg q⟩],q+cg q+7+k,true,_,E-k,I-k,rest.drop k,rfl,rfl,oMg,by rw[ZF,y.out],af,?_,?_,Mod.to (m:=m6) ?_⟩
       ·show _=_
        rw[kI,Ze,<-YB,<-Hq.out];simp only[Pt.out,Ze,eA,Yh,gd,Zt,y.out];omega
       ·show _=_
        rw[Ht.out,toCome_step q _ rest (by rw[y.out];exact .inr h0),<-Hk.out,y.out,<-ae.out,kI];simp only[Pt.out,Zr]
       ·rw[show ((q+cg q+7+k:Nat):Int)=(q:Int)+(cg q:Int)+7+(k:Int)from by omega]
        simp only[b9,eI]
        ac_rfl
     ·gi_wp2
      go_wp2
      refine bodyPost_ret (results_none rfl _ _ _) rfl ?_;exact⟨⟨_,rfl⟩,.inr ⟨_,trivial,Mod.to (m:=Mod.lP (m:=m5)) (eI _).symm⟩⟩
   ·have ae:Hid (a=ke (!begun) (decide (k=E))):=by show _=_;rw[decide_eq_false hw];exact Ha.out
    have aJ:((k:Int)==(E:Int))=false:=beq_eq_false_iff_ne.2 oMg;cases begun
    ·go_wp2_with fail
     obtain⟨O,U,V⟩:∃O,O=_/\Mod wr w0 O:=⟨_,rfl,m2⟩;have ag:jq O K (.cells #[.int .i64 (q:Int)] 3 (0,0)):=by rw[U];infer_instance
     have HC:Hid (∀u,Mod u w0 O->Calls Tryz.prog 125 #[.int .i64 (q:Int)] u fun e w'=>e=.returned (.int .i64 (cg q:Int))/\Mod w' w0 O):=fun u mu=>o8 q u w0 O mu oMg;have Y:=zbj U;clear U;have:=jO.some V;refine dv 4 V kRf kRf ?_;simp only[List.take_succ_cons,List.take_zero,ZY,Z6]
     repeat (go_big_quiet_step ((go_at_call 125;refine cW (HC.out _ ?_);exact zbk)))
     refine wpQuiet_nil ?_;rintro w3 ⟨s,rfl⟩;have m3:=s.mod;clear HC V ag m2;generalize s.world=w3 at *;rw[Y.out]at m3;clear Y this s;go_upto_region 9 with(fail)
     have m4:Mod (w3.setCell ⟨K,0,none⟩ (.int .i64 ((q:Int)+(cg q:Int)))) w0 (J pre*(aE pr (.cells #[.slice M E I] 67 (0,0))*(aE K (.cells #[.int .i64 ((q:Int)+(cg q:Int))] 3 (0,0))*aE W.heap.size (.cells #[.int .u8 (a.toNat:Int),.int .u8 (b.toNat:Int)] 262 (0,0))))) :=
      Mod.to (m:=(zbk:Mod (w3.setCell ⟨K,0,none⟩ (.int .i64 ((q:Int)+(cg q:Int)))) w0 (aE K (.cells #[.int .i64 ((q:Int)+(cg q:Int))] 3 (0,0))*(J pre*(aE pr (.cells #[.slice M E I] 67 (0,0))*(sC*aE W.heap.size (.cells #[.int .u8 (a.toNat:Int),.int .u8 (b.toNat:Int)] 262 (0,0)))))))) (by rw[b9];ac_rfl)
     clear m3;generalize w3.setCell ⟨K,0,none⟩ (.int .i64 ((q:Int)+(cg q:Int)))=W1 at *;obtain⟨fn,tmps,z,Z,hy,aa⟩:=hR pre ⟨a,M,k,I,rest.take k,cg q⟩ _ W1 (HN.out a ae.out) m4;have hy:(Instr.yield l #[.int .u8 (a.toNat:Int),.slice M k I]).run Tryz.prog W1=.ok (.round l fn tmps z Z) W1:=hy;refine(wpIn_wide (n:=6)).1 ?_
     gi_wp2
     refine aa.mono ?_;rintro e W3 (⟨rfl,m5⟩ | ⟨rfl,m5⟩)
     ·gi_wp2
      clear aa hy hR HN m4;go_wp2_with fail
      have af:=nO hr ai ak;go_region
      generalize (if I=k then M else M.map (fun x=>x.add k))=B2 at *;go_wp2_with fail
      have m6:Mod (((((W3.setCell ⟨K,0,none⟩ (.int .i64 ((q:Int)+(cg q:Int)+7+(k:Int)))).setCell ⟨pr,0,none⟩ (.slice B2 (E-k) (I-k))).setCell ⟨W.heap.size,0,none⟩ (.int .u8 3)).setCell ⟨W.heap.size,1,none⟩ (.int .u8 4)).drew) w0 _:=zbk;go_roundg (E-k)
      case measure=>rw[aj.out];simp;omega
      case rel =>
       refine⟨pre++[⟨a,M,k,I,rest.take k,cg q⟩],q+cg q+7+k,true,_,E-k,I-k,rest.drop k,rfl,rfl,oMg,by rw[ZF,y.out],af,?_,?_,Mod.to (m:=m6) ?_⟩
       ·show _=_
        rw[kI,Ze,<-YB,<-Hq.out];simp only[Pt.out,Ze,eA,Yh,gd,Zt,y.out];omega
       ·show _=_
        rw[Ht.out,toCome_step q _ rest (by rw[y.out];exact .inl rfl),<-Hk.out,y.out,<-ae.out,kI];simp only[Pt.out,Zr]
       ·rw[show ((q+cg q+7+k:Nat):Int)=(q:Int)+(cg q:Int)+7+(k:Int)from by omega]
        simp only[b9,eI]
        ac_rfl
     ·gi_wp2
      go_wp2
      refine bodyPost_ret (results_none rfl _ _ _) rfl ?_;exact⟨⟨_,rfl⟩,.inr ⟨_,trivial,Mod.to (m:=Mod.lP (m:=m5)) (eI _).symm⟩⟩
    ·have h0:0<E:=by simpa using ah
     go_wp2_with fail
     obtain⟨O,U,V⟩:∃O,O=_/\Mod wr w0 O:=⟨_,rfl,m2⟩;have ag:jq O K (.cells #[.int .i64 (q:Int)] 3 (0,0)):=by rw[U];infer_instance
     have HC:Hid (∀u,Mod u w0 O->Calls Tryz.prog 125 #[.int .i64 (q:Int)] u fun e w'=>e=.returned (.int .i64 (cg q:Int))/\Mod w' w0 O):=fun u mu=>o8 q u w0 O mu oMg;have Y:=zbj U;clear U;have:=jO.some V;refine dv 4 V kRf kRf ?_;simp only[List.take_succ_cons,List.take_zero,ZY,Z6]
     repeat (go_big_quiet_step ((go_at_call 125;refine cW (HC.out _ ?_);exact zbk)))
     refine wpQuiet_nil ?_;rintro w3 ⟨s,rfl⟩;have m3:=s.mod;clear HC V ag m2;generalize s.world=w3 at *;rw[Y.out]at m3;clear Y this s;go_upto_region 9 with(fail)
     have m4:Mod (w3.setCell ⟨K,0,none⟩ (.int .i64 ((q:Int)+(cg q:Int)))) w0 (J pre*(aE pr (.cells #[.slice M E I] 67 (0,0))*(aE K (.cells #[.int .i64 ((q:Int)+(cg q:Int))] 3 (0,0))*aE W.heap.size (.cells #[.int .u8 (a.toNat:Int),.int .u8 (b.toNat:Int)] 262 (0,0))))) :=
      Mod.to (m:=(zbk:Mod (w3.setCell ⟨K,0,none⟩ (.int .i64 ((q:Int)+(cg q:Int)))) w0 (aE K (.cells #[.int .i64 ((q:Int)+(cg q:Int))] 3 (0,0))*(J pre*(aE pr (.cells #[.slice M E I] 67 (0,0))*(sC*aE W.heap.size (.cells #[.int .u8 (a.toNat:Int),.int .u8 (b.toNat:Int)] 262 (0,0)))))))) (by rw[b9];ac_rfl)
     clear m3;generalize w3.setCell ⟨K,0,none⟩ (.int .i64 ((q:Int)+(cg q:Int)))=W1 at *;obtain⟨fn,tmps,z,Z,hy,aa⟩:=hR pre ⟨a,M,k,I,rest.take k,cg q⟩ _ W1 (HN.out a ae.out) m4;have hy:(Instr.yield l #[.int .u8 (a.toNat:Int),.slice M k I]).run Tryz.prog W1=.ok (.round l fn tmps z Z) W1:=hy;refine(wpIn_wide (n:=6)).1 ?_
     gi_wp2
     refine aa.mono ?_;rintro e W3 (⟨rfl,m5⟩ | ⟨rfl,m5⟩)
     ·gi_wp2
      clear aa hy hR HN m4;go_wp2_with fail
      have af:=nO hr ai ak;go_region
      have ay:¬I=k:=oMg
      rw[if_neg ay]at af;generalize M.map (fun x=>x.add k)=B2 at *;clear ay;go_wp2_with fail
      have m6:Mod (((((W3.setCell ⟨K,0,none⟩ (.int .i64 ((q:Int)+(cg q:Int)+7+(k:Int)))).setCell ⟨pr,0,none⟩ (.slice B2 (E-k) (I-k))).setCell ⟨W.heap.size,0,none⟩ (.int .u8 3)).setCell ⟨W.heap.size,1,none⟩ (.int .u8 4)).drew) w0 _:=zbk;go_roundg (E-k)
      case measure=>rw[aj.out];simp only[if_true];have:=qr q rest (by rw[y.out];omega);rw[<-Hk.out]at this;omega
      case rel =>
       refine⟨pre++[⟨a,M,k,I,rest.take k,cg q⟩],q+cg q+7+k,true,_,E-k,I-k,rest.drop k,rfl,rfl,oMg,by rw[ZF,y.out],af,?_,?_,Mod.to (m:=m6) ?_⟩
       ·show _=_
        rw[kI,Ze,<-YB,<-Hq.out];simp only[Pt.out,Ze,eA,Yh,gd,Zt,y.out];omega
       ·show _=_
        rw[Ht.out,toCome_step q _ rest (by rw[y.out];exact .inr h0),<-Hk.out,y.out,<-ae.out,kI];simp only[Pt.out,Zr]
       ·rw[show ((q+cg q+7+k:Nat):Int)=(q:Int)+(cg q:Int)+7+(k:Int)from by omega]
        simp only[b9,eI]
        ac_rfl
     ·gi_wp2
      go_wp2
      refine bodyPost_ret (results_none rfl _ _ _) rfl ?_;exact⟨⟨_,rfl⟩,.inr ⟨_,trivial,Mod.to (m:=Mod.lP (m:=m5)) (eI _).symm⟩⟩
  ·have hb:begun=true:=by cases begun <;> simp_all
   have h0:E=0:=oMg
   subst hb h0;have az:rest=[]:=Zo au
   have aD:Hid (fz p true rec=jQ pre):=by
    show _=_;rw[Ht.out,az,toCome_end,ZH]
   clear Ht az ah ax;go_wp2
   go_end0
   exact⟨⟨_,rfl⟩,.inl ⟨pre,aD.out.symm,Mod.to (m:=Mod.lP (m:=m2)) (eI _).symm⟩⟩
attribute [local go_sem] ab bh bd
def lz (k:Nat):Array Value:=((List.range 256).map fun i=>if i<k then Value.int .u32 ((qX i).toNat:Int)else .int .u32 0).toArray
def AS:Array Value:=lz 256
theorem Nr (k:Nat)(_h:k<256):(lz k).setIfInBounds k (.int .u32 ((qX k).toNat:Int))=lz (k+1):=by
 unfold lz;apply Array.ext
 ·simp
 ·intro i z B
  simp only[List.getElem_toArray,Xa,List.getElem_range];by_cases e:k=i
  ·subst e;simp
  ·have y:(i<k+1)↔i<k:=oMg
   simp[e,y]
theorem vj:∀(k:Nat)(n:BitVec 32),nV (k+1) n=sA (nV k n)
 | 0,_=>rfl
 | k+1,n=>by
   show nV (k+1) (sA n)=sA (nV k (sA n));exact vj k (sA n)
theorem M1 (v:BitVec 32):v.getLsbD 0=decide (v.toNat%2=1):=by rw[BitVec.getLsbD,Nat.testBit_zero]
theorem Lk (v:BitVec 32):bits .xor .u32 ((v.toNat:Int) / 2) (bits .and .u32 2197175160 (-bits .and .u32 (v.toNat:Int) 1%4294967296))=((sA v).toNat:Int):=by
 have z:=v.isLt
 have y:bits .and .u32 (v.toNat:Int) 1=((v.toNat%2:Nat):Int):=by
  have:=u32_and_nat v.toNat 1 oMg oMg;rw[Nat.and_one_is_mod]at this;exact this
 rw[y,show ((v.toNat:Int) / 2)=((v.toNat / 2:Nat):Int)from by omega];unfold sA;rw[M1];rcases Nat.mod_two_eq_zero_or_one v.toNat with h | h
 ·rw[h,show (-((0:Nat):Int)%4294967296)=((0:Nat):Int)from rfl,show (2197175160:Int)=((2197175160:Nat):Int)from rfl,u32_and_nat 2197175160 0 oMg oMg,u32_xor_nat _ _ oMg (by simp)]
  simp[XV]
 ·rw[h,show (-((1:Nat):Int)%4294967296)=((4294967295:Nat):Int)from rfl,show (2197175160:Int)=((2197175160:Nat):Int)from rfl,u32_and_nat 2197175160 4294967295 oMg oMg,show 2197175160 &&& 4294967295=2197175160 from by decide,u32_xor_nat _ _ oMg oMg]
  simp[XV]
theorem IQ:Tryz.prog.underlying 263=some (.array 256 42):=kRf
theorem AI:(Tryz.prog.info? 263).map (·.size)=some 256:=kRf
theorem Fr {y:Oper}{a:Act}{w w0:World}{S:ba}{K:Act->World->Prop}{Q:Exit->Act->World->Prop}{g:Nat}{cs:Array Value}{fr:Nat×Nat} [m:Mod w w0 S] [h:jq S g (.cells cs 263 fr)](x:Operand)(B:y.op=.load 263 x)
 (J:a.eval x=.pointer (some ⟨g,0,none⟩)) (E:cs.size=256) (z:K (a.put y.dst (.agg cs)) w):y.wp Tryz.prog a w K Q:=by
 refine wp_load_mid 263 x B g 0 J cs.toList _ (fun j v I=>by rw[ZM,ab];simpa using I) IQ rfl (by rw[AI];simp[E]) ?_;simpa using z
def setMany (cs:Array Value):Nat->List Value->Array Value
 | _,[]=>cs
 | o,v::r=>setMany (cs.setIfInBounds o v) (o+1) r
theorem size_setMany:∀(l:List Value)(o:Nat)(cs:Array Value),(setMany cs o l).size=cs.size
 | [],_,_=>rfl
 | v::r,o,cs=>by simp only[setMany];rw[size_setMany r (o+1)];simp
theorem get_setMany:∀(l:List Value)(o:Nat)(cs:Array Value)(i:Nat)(_:i<cs.size),(setMany cs o l)[i]?=if o<=i/\i<o+l.length then l[i-o]? else cs[i]?
 | [],o,cs,i,_=>by simp[setMany];omega
 | v::r,o,cs,i,hi=>by
   simp only[setMany];rw[get_setMany r (o+1) _ i (by simpa using hi)];simp only[List.length_cons];by_cases y:o+1<=i/\i<o+1+r.length
   ·rw[if_pos y,if_pos oMg,show i-o=(i-(o+1))+1 by omega,List.getElem?_cons_succ]
   ·rw[if_neg y,Yn]
    by_cases z:o=i
    ·subst z;simp[hi]
    ·rw[if_neg z,if_neg oMg]
theorem x7 (cs y:Array Value)(h:cs.size=y.size):setMany cs 0 y.toList=y:=by
 apply Array.ext_getElem?;intro i;by_cases z:i<cs.size
 ·rw[get_setMany _ _ _ _ z,if_pos (by simp;omega)];simp
 ·rw[YN (by rw[size_setMany];omega),YN oMg]
theorem xQ {w0:World}{g:Nat}{ty:TypeId}{fr:Nat×Nat}{F:ba}:∀(l:List Value)(o:Nat)(w:World)(cs:Array Value),Mod w w0 (aE g (.cells cs ty fr)*F)->Mod (w.setCells g o l) w0 (aE g (.cells (setMany cs o l) ty fr)*F)
 | [],_,_,_,m=>m
 | v::r,o,w,cs,m=>by
   have h:=Mod.setCells (i:=o) v (m:=m) (t:=zbk) (g:=g) (cs:=cs) (ty:=ty) (fr:=fr);exact xQ r (o+1) _ _ (Mod.to (m:=h) (by rw[b9]))
theorem xa {ops:Array Oper}{rest:List Oper}{B:Oper}{a:Act}{w w0:World}{S F:ba}{Q:Exit->Act->World->Prop}{g:Nat}{cs z:Array Value}(E:B.guard=none)(x y:Operand)(V:B.op=.store 263 x y)(Y:a.eval x=.pointer (some ⟨g,0,none⟩))(Z:a.eval y=.agg z)
 (m:Mod w w0 S) [t:eM S (aE g) (.cells cs 263 (0,0)) F] (hs:cs.size=256) (I:z.size=256) (M:z.all (·.oneCell')=true) (h:∀K,Mod K w0 (aE g (.cells z 263 (0,0))*F)->wpList Tryz.prog ops Q rest (a.put B.dst undef) K):wpList Tryz.prog ops Q (B::rest) a w:=by
 have J:jq S g (.cells cs 263 (0,0)):=by rw[t.eq];infer_instance
 have m1:Mod w w0 (aE g (.cells cs 263 (0,0))*F):=by rw[t.eq]at m;exact m
 refine wpList_store_mid E 263 x y V g 0 z Y Z (fun j hj=>?_) (by rw[AI,I]) M (h _ ?_)
 ·have O:=@ab w w0 S g j cs 263 (0,0) m J
  have U:=@bh w w0 S g j cs 263 m J;rw[ZM,O,U];exact⟨by rw[Yk oMg];rfl,rfl⟩
 ·have:=xQ z.toList 0 w cs m1
  rw[x7 cs z oMg]at this;exact this
theorem IN (k:Nat):(lz k).all (·.oneCell')=true:=by
 rw[Xr];intro v y;unfold lz at y;simp only[List.mem_toArray,Zz]at y;obtain⟨i,_,rfl⟩:=y
 split <;> rfl
theorem AU (k:Nat):(lz k).size=256:=by simp[lz]
theorem uO (w w0:World)(S:ba)(m:Mod w w0 S):Calls Tryz.prog 193 #[] w fun e M=>e=.returned (.agg AS)/\Mod M w0 S:=by
 go_enter Tryz.func193,Tryz.ntmps193
 go_wp2
 go_loopg [3] 256 (fun gk i wr=>∃(k:Nat)(cs:Array Value),k<=256/\gk=256-k/\i=.int .i64 (k:Int)/\Hid (cs=lz k)/\Mod wr w0 (aE w.heap.size (.cells cs 263 (0,0))*S))
 case atStart=>exact⟨0,_,oMg,rfl,rfl,by show _=_;kernel_rfl,zbk⟩
 case round =>
  obtain⟨k,cs,hk,Z,rfl,y,K⟩:=hrel;have z:cs.size=256:=by rw[y.out];exact AU k
  by_cases I:k<256
  ·have aa:(k:Int)<256:=oMg
   go_wp2
   go_loopg [2,8] 8 (fun U n j wr=>∃q:Nat,q<=8/\U=8-q/\j=.int .i64 (q:Int)/\n=.int .u32 ((nV q (BitVec.ofNat 32 k)).toNat:Int)/\Mod wr w0 (aE w.heap.size (.cells cs 263 (0,0))*S))
   case atStart=>exact⟨0,oMg,rfl,rfl,by simp[nV];omega,K⟩
   case round =>
    obtain⟨q,hq,Y,rfl,rfl,B⟩:=hrel;by_cases ae:q<8
    ·have af:(q:Int)<8:=oMg
     have hv:=(nV q (BitVec.ofNat 32 k)).isLt;have O:=zbj (vj q (BitVec.ofNat 32 k));generalize nV q (BitVec.ofNat 32 k)=v at *;go_wp2
     go_roundg (8-(q+1))
     case measure=>omega
     case rel=>exact⟨q+1,oMg,rfl,by go_num,by rw[Lk,O.out],B⟩
    ·have J:q=8:=oMg
     subst J;go_wp2
     go_roundg (256-(k+1))
     case measure=>omega
     case rel=>exact⟨k+1,cs.setIfInBounds k (.int .u32 ((qX k).toNat:Int)),oMg,rfl,by go_num,by show _=_;rw[y.out];exact Nr k I,IJ (aE w.heap.size) (zbk:Mod (wr.setCell ⟨w.heap.size,k,none⟩ (.int .u32 ((qX k).toNat:Int))) w0 _)⟩
  ·have E:k=256:=oMg
   subst E;go_wp2
   have V:cs.all (·.oneCell')=true:=by rw[y.out];exact IN 256
   refine Fr _ rfl rfl z ?_
   rename_i hK
   refine hK _ _ ?_;simp only[Act.put,Zb,Zc,Zd];refine xa rfl _ _ rfl rfl rfl K z z V fun M B=>?_;go_wp2
   refine bodyPost_ret (results_cell_row rfl _ _ w.heap.size 263 cs (0,0) _ rfl (Mod.heap (m:=B)) IQ rfl (by rw[AI,z])) rfl ?_;exact⟨by rw[y.out];rfl,Mod.sub (m:=B) S⟩
theorem IC (s:BitVec 32):bits .xor .u32 IntKind.u32.max (s.toNat:Int)=((~~~ s).toNat:Int):=by
 have y:=s.isLt;rw[show IntKind.u32.max=((4294967295:Nat):Int)from by decide,u32_xor_nat _ _ oMg oMg]
 congr 1
theorem Fb:AS.size=256:=AU 256
theorem KX (v:BitVec 32)(c:UInt8):bits .xor .u8 ((v.toNat:Int)%256) (c.toNat:Int)=((v.toNat%256 ^^^ c.toNat:Nat):Int):=by
 have:=c.toNat_lt;exact u8_xor_nat (v.toNat%256) c.toNat oMg oMg
theorem Ot (v:BitVec 32)(c:UInt8):(v.toNat%256 ^^^ c.toNat)<256:=Nat.xor_lt_two_pow (n:=8) oMg c.toNat_lt
theorem KY (v:BitVec 32)(c:UInt8):bits .xor .u32 ((v.toNat:Int) / 256) ((qX (v.toNat%256 ^^^ c.toNat)).toNat:Int)=((qY v c).toNat:Int):=by
 have y:=v.isLt;have:=u32_xor_nat (v.toNat / 256) (qX (v.toNat%256 ^^^ c.toNat)).toNat oMg (qX _).isLt;rw[show ((v.toNat:Int) / 256)=((v.toNat / 256:Nat):Int)from by omega,this];unfold qY;rw[BitVec.toNat_xor,BitVec.toNat_ushiftRight,XV]
theorem MB (i:Nat)(h:i<256):AS[i]?=some (.int .u32 ((qX i).toNat:Int)):=by
 unfold AS lz;simp[h]
theorem yt (g:Nat)(s:BitVec 32)(B:Option Addr)(n c:Nat)(b:List UInt8)(w w0:World)(S:ba)(m:Mod w w0 S)(ht:jq S g (.cells AS 263 (0,0)))(r:bk S B n (b7 b))(hn:n<=9223372036854775807) :
 Calls Tryz.prog 194 #[ap g,.int .u32 (s.toNat:Int),.slice B n c] w fun e w'=>e=.returned (.int .u32 ((kO s b).toNat:Int))/\Mod w' w0 S:=by
 have hl:=fp m r;rw[fg]at hl;have hs:=s.isLt;go_enter Tryz.func194,Tryz.ntmps194
 go_wp2
 go_loopg [7,16] n (fun gk v i wr=>∃k:Nat,k<=n/\gk=n-k/\i=.int .i64 (k:Int)/\v=.int .u32 ((((b.take k).foldl qY (~~~ s)).toNat:Nat):Int)/\Mod wr w0 S)
 case atStart=>exact⟨0,Zv _,rfl,rfl,by rw[IC s];rfl,m⟩
 case round =>
  obtain⟨k,ag,aa,rfl,rfl,K⟩:=hrel;by_cases ah:k<n
  ·obtain⟨ad,V,E,M⟩:=cP K r oMg
   obtain⟨b1,o1,ai⟩:=ad;simp only at E;subst E V;have y:k<b.length:=oMg
   have hx:=M k (.int .u8 ((b[k].toNat:Nat):Int)) (by simp[b7,y]);have af:(k:Int)<(n:Int):=oMg
   have Y:=b[k].toNat_lt
   have U:Hid ((b.take (k+1)).foldl qY (~~~ s)=qY ((b.take k).foldl qY (~~~ s)) b[k]):=by
    show _=_;rw[Zx y,Xg];rfl
   clear M;generalize (b.take k).foldl qY (~~~ s)=v at *;generalize b[k]=c at *;have hv:=v.isLt;have ae:=KX v c;have z:=Ot v c;have O:=KY v c;have I:=MB (v.toNat%256 ^^^ c.toNat) z;go_wp2
   go_roundg (n-(k+1))
   case measure=>omega
   case rel=>exact⟨k+1,oMg,rfl,by go_num,by rw[U.out],K⟩
  ·have J:b.take k=b:=Zn oMg
   rw[J]at *;have Z:bits .xor .u32 IntKind.u32.max (((b.foldl qY (~~~ s)).toNat:Nat):Int)=((kO s b).toNat:Int):=IC _;go_wp2
   go_ret
   refine⟨?_,K⟩;rw[<-Z];rfl
theorem tc {w:World}{ty:TypeId}{g:Nat}(y:g=w.heap.size):∀(l:List Value)(o:Nat)(cs:Array Value),(w.alloc (.cells cs ty)).setCells g o l=w.alloc (.cells (setMany cs o l) ty)
 | [],_,_=>rfl
 | v::r,o,cs=>by
   simp only[World.setCells,setMany];rw[World.setCell_alloc_at cs ty g o v y];exact tc y r (o+1) _
theorem ug:Tryz.zeroCells263.size=256:=by rw[show Tryz.zeroCells263=lz 0 from by kernel_rfl];exact AU 0
theorem wW (w:World)(g:Nat) [h:lY w g]:(storeCells ⟨g,0,none⟩ AS.toList).run Tryz.prog (w.alloc (.cells Tryz.zeroCells263 263))=.ok () (w.alloc (.cells AS 263)):=by
 have O:=h.eq;subst O;have I:Mod (w.alloc (.cells Tryz.zeroCells263 263)) w (aE w.heap.size (.cells Tryz.zeroCells263 263 (0,0))*vG (hp w)):=Mod.alloc (m:=Mod.start w) (hn:=⟨rfl⟩) _;have E:AS.size=256:=Fb;have one:∀v,v∈AS->v.oneCell'=true:=fun v B=>(Xr.1 (IN 256)) v B
 have J:=run_storeCells_cells (P:=Tryz.prog) w.heap.size 0 AS.toList 0 (w.alloc (.cells Tryz.zeroCells263 263)) (fun j y=>by
  have K:=@ab _ w _ w.heap.size j Tryz.zeroCells263 263 (0,0) I zbk;have z:j<Tryz.zeroCells263.size:=by rw[ug];rw[Array.length_toList,E]at y;exact y
  simp only[ZM]
  rw[K,Yk z];rfl) (fun j y=>by
  have M:=@bh _ w _ w.heap.size j Tryz.zeroCells263 263 I zbk;simp only[ZM]
  exact M) (fun v B=>one v (by simpa using B))
 rw[J,tc rfl,x7 _ _ (by rw[ug,E])]
attribute [local go_sem] wW
theorem Db (g:Nat)(B:Option Addr)(n c:Nat)(b:List UInt8)(w w0:World)(S:ba)(m:Mod w w0 S)(ht:jq S g (.cells AS 263 (0,0)))(r:bk S B n (b7 b))(hn:n<=9223372036854775807) :
 Calls Tryz.prog 195 #[ap g,.slice B n c] w fun e z=>e=.returned (.int .u32 ((kO 0#32 b).toNat:Int))/\Mod z w0 S:=by
 go_enter Tryz.func195,Tryz.ntmps195
 go_wp2_with (go_at_call 194;refine(yt g 0#32 B n c b _ w0 S m ht r hn).mono ?_;rintro e w1 ⟨rfl,y⟩)
 go_ret
 exact⟨rfl,y⟩
theorem vX (kind:UInt8)(B:Option Addr)(n c:Nat)(b:List UInt8)(w w0:World)(S:ba)(m:Mod w w0 S)(r:bk S B n (b7 b))(hn:n<=9223372036854775807) :
 Calls Tryz.prog 127 #[.int .u8 (kind.toNat:Int),.slice B n c] w fun e z=>e=.returned (.int .u32 ((lH kind b).toNat:Int))/\Mod z w0 S:=by
 go_enter Tryz.func127,Tryz.ntmps127
 go_wp2_with (go_at_call 193;refine(uO _ w0 _ zbk).mono ?_;rintro e w1 ⟨rfl,E⟩)
 go_wp2_with first
  | (go_at_call 195;refine(Db w1.heap.size _ 1 _ [kind] _ w0 _ zbk zbk (ce rfl rfl) oMg).mono ?_;rintro e J ⟨rfl,y⟩)
  | (go_at_call 194;refine(yt w1.heap.size (kO 0#32 [kind]) B n c b _ w0 _ y zbk zbk hn).mono ?_;rintro e K ⟨rfl,I⟩)
 go_ret
 exact⟨rfl,Mod.sub S⟩
structure jt (S:ba)(A:Option Addr)(n:Nat)(rs:List (List UInt8)):Prop where
 len:rs.length=n
 each:∃hs:List (Option Addr×Nat),hs.length=n/\bk S A n ((hs.zip rs).map fun q=>Value.slice q.1.1 q.2.length q.1.2)/\∀i (h1:i<hs.length) (h2:i<rs.length),bk S hs[i].1 rs[i].length (b7 rs[i])/\rs[i].length<=hs[i].2
theorem jt.lift {S' S:ba}{A:Option Addr}{n:Nat}{rs:List (List UInt8)}(s:Sub S' S)(r:jt S A n rs):jt S' A n rs:=by
 obtain⟨z,I,B,E,y⟩:=r;exact⟨z,I,B,ct s E,fun i a b=>⟨ct s (y i a b).1,(y i a b).2⟩⟩
theorem Ow {w w0:World}{S:ba}{A:Option Addr}{n:Nat}{rs:List (List UInt8)}(m:Mod w w0 S)(r:jt S A n rs){k:Nat}(Y:k<n) :
 ∃b o,A=some ⟨b,o,none⟩/\∃(h:k<rs.length)(B:Option Addr)(c:Nat),w.cell? ⟨b,o+k,none⟩=some (.slice B rs[k].length c)/\bk S B rs[k].length (b7 rs[k])/\rs[k].length<=c:=by
 obtain⟨U,I,V,K,J⟩:=r;obtain⟨ad,M,E,O⟩:=cP m K oMg;obtain⟨b,o,Z⟩:=ad;simp only at E;subst E;have y:k<rs.length:=oMg
 have z:k<I.length:=oMg
 refine⟨b,o,M,y,I[k].1,I[k].2,O k _ ?_,(J k z y).1,(J k z y).2⟩;rw[Yc,Zg (by simp;omega)];simp
theorem Bz {w w0:World}{S:ba}{A:Option Addr}{n:Nat}{rs:List (List UInt8)}(m:Mod w w0 S)(r:jt S A n rs){k:Nat}(hk:k<n) :
 ∃b o,A=some ⟨b,o,none⟩/\∃(h:k<rs.length)(B:Option Addr)(c:Nat),(∀s:jO w0 S,s.world.cell? ⟨b,o+k,none⟩=some (.slice B rs[k].length c))/\bk S B rs[k].length (b7 rs[k])/\rs[k].length<=c:=by
 obtain⟨Y,J,Z,K,M⟩:=r;obtain⟨ad,O,I,_⟩:=cP m K oMg;obtain⟨b,o,sp⟩:=ad;simp only at I;subst I;have z:k<rs.length:=oMg
 have E:k<J.length:=oMg
 refine⟨b,o,O,z,J[k].1,J[k].2,fun s=>?_,(M k E z).1,(M k E z).2⟩;obtain⟨U,y,_,V⟩:=cP s.mod K oMg;rw[O]at y;injection y with y;subst y;refine V k _ ?_;rw[Yc,Zg (by simp;omega)];simp
open Go.ChangeShapes Go.WideShapes Go.ChangeAt Go.RowKit Go.Sl Go.Deep
end Go.Proofs.YtdfppjcaelghhaaGreatDoor
