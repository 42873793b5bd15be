/- Plain lemmas and contracts; the conditions are in each. -/
import Derived.Deep.LoopGhost
import Derived.Laws.Externs
import Derived.Sort.KeysCollected
import Derived.Test.YtdfppjcaelghhaaGreatDoorBaseG
import Derived.Test.YtdfppjcaelghhaaGreatDoorProg
import Derived.Test.YtdfppjcaelghhaaGreatDoorShelf
import Derived.WalkLawsBesides
import Derived.WalkSpells
set_option maxHeartbeats 2000000
namespace Go.Proofs.YtdfppjcaelghhaaGreatDoor
open Go.RowKit Go.Sl
attribute [local go_sem] ab bh
def kS:List UInt8:=[97,98,99,100,101,102,103,104,105,106,107,108,109,110,111,112,113,114,115,116,117,118,119,120,121,122,48,49,50,51,52,53,54,55,56,57,45,46]
def eo (s:ByteArray):Bool := !s.toList.isEmpty&&decide (s.size<=16)&&(⟨(Lib.trimS s.data.toList kS).toArray⟩:ByteArray).toList.isEmpty
theorem KS (s:ByteArray)(w w0:World)(S:ba) [Mod w w0 S](hs:s.size<=9223372036854775807) :
 Calls Tryz.prog 94 #[.string s,.string ⟨#[97,98,99,100,101,102,103,104,105,106,107,108,109,110,111,112,113,114,115,116,117,118,119,120,121,122,48,49,50,51,52,53,54,55,56,57,45,46]⟩] w
  fun e z=>e=.returned (.string ⟨(Lib.trimS s.data.toList kS).toArray⟩)/\Mod z w0 S:=by
 have y:=Any.strings_Trim_laid Tryz.lays160 kRf s ⟨kS.toArray⟩ w hs (by decide) (ascii_of_all (by decide));exact y.mono fun e z ⟨B,E⟩=>⟨B,Mod.below E⟩
theorem rW (g:Nat)(size:Int)(x y:Value)(w w0:World)(S:ba) [Mod w w0 S] [jq S g (.cells #[.int .i64 size,x,y] 91 (0,0))](h:0<size) :
 Calls Tryz.prog 93 #[.pointer (some ⟨g,0,none⟩)] w fun e z=>e=.returned (.bool true)/\w=z:=by
 go_enter Tryz.func93,Tryz.ntmps93
 go_wp2
 go_ret
 exact⟨rfl,rfl⟩
theorem Be (p:ByteArray->Bool)(l:List ByteArray)(k:Nat)(h:k<l.length):(l.take (k+1)).all p=((l.take k).all p&&p l[k]):=by
 rw[Zx h,List.all_append];simp only[List.all_cons,List.all_nil,Bool.and_true]
theorem uV (g:Nat)(size:Int)(x y:Value)(ok:Bool)(G:Nat)(cs:Array Value)(names:List ByteArray)(w w0:World)(S:ba) [Mod w w0 S] [jq S g (.cells #[.int .i64 size,x,y] 91 (0,0))](K:0<size)
 [jq S G (.cells cs 9 (0,0))] (U:cs=(names.map Value.string).toArray) (hn:∀s∈names,s.size<=9223372036854775807) (cap:Nat) (aa:names.length<=100) (r:Int) (hr:r=if (ok&&names.all eo)=true then 0 else 1) :
 Calls Tryz.prog 44 #[.pointer (some ⟨g,0,none⟩),.bool ok,.slice (some ⟨G,0,none⟩) names.length cap] w fun e w'=>e=.returned (.int .i64 r)/\Mod w' w0 S:=by
 have Z:=zbj U;have Hr:=zbj hr;have Hn:=zbj hn;clear U hr hn;go_enter Tryz.func44,Tryz.ntmps44
 go_wp2_with (go_at_call 93;refine(rW g size x y w w0 S K).mono ?_;rintro e w' ⟨rfl,rfl⟩)
 go_loopw [1,14] (fun b i wr=>∃(k:Nat)(I:Bool),k<=names.length/\i=.int .i64 k/\b=.bool I/\Hid (I=(ok&&(names.take k).all eo))/\Mod wr w0 S) (fun _ i _=>names.length-(intOf i).toNat)
 case atStart=>exact⟨0,ok,Zv _,rfl,rfl,by simp[Hid],zbk⟩
 case round =>
  obtain⟨k,I,hk,rfl,rfl,Y,B⟩:=hrel;by_cases J:k<names.length
  ·have ae:cs[k]?=some (.string names[k]):=by rw[Z.out];simp[J]
   have Hs:Hid (names[k].size<=9223372036854775807):=Hn.out _ (Zq J)
   have z:Hid ((ok&&(names.take (k+1)).all eo)=(I&&eo names[k])):=by
    show _=_;rw[Be _ _ _ J,<-Bool.and_assoc,<-Y.out]
   generalize names[k]=s at *;have Ht:=zbj (KS s wr w0 S Hs.out);have E:Hid (eo s=(!s.toList.isEmpty&&decide (s.size<=16)&&(⟨(Lib.trimS s.data.toList kS).toArray⟩:ByteArray).toList.isEmpty)):=rfl;generalize (⟨(Lib.trimS s.data.toList kS).toArray⟩:ByteArray)=t at *;cases I
   ·go_wp2_with fail
    go_roundw
    case rel=>exact⟨k+1,false,oMg,by go_num,rfl,by rw[Hid,z.out];rfl,B⟩
    case measure=>simp[intOf];omega
   ·cases h1:s.toList.isEmpty
    ·by_cases h2:(s.size:Int)<=16
     ·cases h3:t.toList.isEmpty
      all_goals
       go_wp2_with (go_at_call 94;refine Ht.out.mono ?_;rintro e w' ⟨rfl,M⟩)
       go_roundw
       case rel=>exact⟨k+1,_,oMg,by go_num,rfl,by rw[Hid,z.out,E.out,h1,h3];simp <;> omega,M⟩
       case measure=>simp[intOf];omega
     ·go_wp2_with fail
      go_roundw
      case rel=>exact⟨k+1,false,oMg,by go_num,rfl,by rw[Hid,z.out,E.out];simp;omega,B⟩
      case measure=>simp[intOf];omega
    ·go_wp2_with fail
     go_roundw
     case rel=>exact⟨k+1,false,oMg,by go_num,rfl,by rw[Hid,z.out,E.out,h1];rfl,B⟩
     case measure=>simp[intOf];omega
  ·have V:k=names.length:=oMg
   have O:Hid (I=(ok&&names.all eo)):=by have:=Y.out;rw[V,Xc]at this;exact this
   clear Y V;cases I
   ·go_wp2_with fail
    go_ret
    exact⟨by rw[Hr.out,<-O.out];rfl,B⟩
   ·go_wp2_with fail
    go_ret
    exact⟨by rw[Hr.out,<-O.out];rfl,B⟩
instance On:od Tryz.prog 89:=⟨by kernel_rfl,by kernel_rfl,fun w=>by kernel_rfl⟩
theorem bd:Tryz.prog.zeroOf (Tryz.prog.mapElem 89)=.pointer none:=kRf
attribute [local go_sem] bd
theorem wG (g rn rs:Nat)(size:Int)(ok:Bool)(name:ByteArray)(L:eR)(w w0:World)(S:ba) [Mod w w0 S] [jq S g (.cells #[.int .i64 size,.map (some rn),.map (some rs)] 91 (0,0))] [dc S rn L](y:0<size)(hs:name.size<=9223372036854775807)(h:(ok&&eo name)=true)(B:br L name=none) :
 Calls Tryz.prog 96 #[.pointer (some ⟨g,0,none⟩),.bool ok,.string name] w fun e z=>e=.returned (.tuple #[.pointer none,.int .i64 7])/\Mod z w0 S:=by
 have H:=zbj h;clear h;go_enter Tryz.func96,Tryz.ntmps96
 go_wp2_with (go_at_call 44;refine(uV g size _ _ ok w.heap.size #[.string name] [name] _ w0 _ y rfl (by simpa using hs) 1 (by simp) 0 (by simp[H.out])).mono ?_;rintro e z ⟨rfl,_inst⟩)
 go_ret2
 exact⟨rfl,Mod.sub S⟩
theorem lC (g rn rs:Nat)(size:Int)(ok:Bool)(name:ByteArray)(L:eR)(w w0:World)(S:ba) [Mod w w0 S] [jq S g (.cells #[.int .i64 size,.map (some rn),.map (some rs)] 91 (0,0))] [dc S rn L](v:Value)(y:0<size)(hs:name.size<=9223372036854775807)(h:(ok&&eo name)=true)(B:br L name=some v) :
 Calls Tryz.prog 96 #[.pointer (some ⟨g,0,none⟩),.bool ok,.string name] w fun e z=>e=.returned (.tuple #[v,.int .i64 0])/\Mod z w0 S:=by
 have H:=zbj h;clear h;go_enter Tryz.func96,Tryz.ntmps96
 go_wp2_with (go_at_call 44;refine(uV g size _ _ ok w.heap.size #[.string name] [name] _ w0 _ y rfl (by simpa using hs) 1 (by simp) 0 (by simp[H.out])).mono ?_;rintro e z ⟨rfl,_inst⟩)
 go_ret2
 exact⟨rfl,Mod.sub S⟩
open Go Go.Sl
structure dr where
 bytes:List UInt8
 sure:Nat
abbrev qP:=List (ByteArray×Nat)
abbrev ep:=List (Nat×dr)
def cw:ep->Nat->Option dr
 | [],_=>none
 | p::l,g=>if p.1=g then some p.2 else cw l g
def iS:ep->Nat->dr->ep
 | [],_,_=>[]
 | p::l,g,f=>if p.1=g then (g,f)::l else p::iS l g f
def iY:ep->Nat->ep
 | [],_=>[]
 | p::l,g=>if p.1=g then l else p::iY l g
theorem jK:∀(T:ep)(g:Nat)(f y:dr),cw T g=some f->cw (iS T g y) g=some y
 | [],_,_,_,h=>by cases h
 | p::l,g,f,y,h=>by
   unfold cw at h;unfold iS;by_cases hp:p.1=g
   ·rw[if_pos hp];simp[cw]
   ·rw[if_neg hp]at h ⊢;simp only[cw,if_neg hp];exact jK l g f y h
theorem jX:∀(T:ep)(g k:Nat)(y:dr),k≠g->cw (iS T g y) k=cw T k
 | [],_,_,_,_=>rfl
 | p::l,g,k,y,h=>by
   unfold iS;by_cases hp:p.1=g
   ·rw[if_pos hp];simp only[cw];rw[if_neg (fun e=>h e.symm),if_neg (fun e=>h (by rw[<-e,hp]))]
   ·rw[if_neg hp];simp only[cw];rw[jX l g k y h]
theorem qp (T:ep)(g k:Nat)(y:dr)(h:(cw T k).isSome=true):(cw (iS T g y) k).isSome=true:=by
 by_cases z:k=g
 ·subst z
  obtain⟨f,B⟩:=YQ.1 h;rw[jK T k f y B];rfl
 ·rw[jX T g k y z];exact h
theorem zY:∀(T:ep)(g:Nat)(y:dr)(p:Nat×dr),p∈iS T g y->p∈T\/p=(g,y)
 | [],_,_,_,h=>by cases h
 | q::l,g,y,p,h=>by
   unfold iS at h;by_cases z:q.1=g
   ·rw[if_pos z]at h
    rcases Zu.1 h with h | h
    ·exact .inr h
    ·exact .inl (Zh _ h)
   ·rw[if_neg z]at h
    rcases Zu.1 h with h | h
    ·exact .inl (by rw[h];exact Zj ..)
    ·rcases zY l g y p h with h | h
     ·exact .inl (Zh _ h)
     ·exact .inr h
theorem jo:∀(T:ep)(g:Nat)(f:dr),cw T g=some f->(g,f)∈T
 | [],_,_,h=>by cases h
 | p::l,g,f,h=>by
   unfold cw at h;by_cases hp:p.1=g
   ·rw[if_pos hp]at h;injection h with h;subst h;subst hp;exact Zj ..
   ·rw[if_neg hp]at h;exact Zh _ (jo l g f h)
structure aq where
 size:Nat
 now:qP
 sure:qP
 files:ep
structure cJ (D:aq):Prop where
 pos:0<D.size
 most:D.size<=8388608
 many:D.now.length<=64
 now:∀p∈D.now,(cw D.files p.2).isSome=true
 sure:∀p∈D.sure,(cw D.files p.2).isSome=true
 len:∀p∈D.files,p.2.bytes.length<=1048576
 upto:∀p∈D.files,p.2.sure<=p.2.bytes.length
 keys:(D.now.map (·.1)).Nodup
 Iv:(D.sure.map (·.1)).Nodup
 inj:(D.now.map (·.2)).Nodup
 MW:(D.sure.map (·.2)).Nodup
 named:∀q∈D.now,eo q.1=true
 C9:∀q∈D.sure,eo q.1=true
 IA:D.sure.length<=64
theorem Iq {D:aq}(h:cJ D){g:Nat}{f y:dr}(_:cw D.files g=some f)(z:y.bytes.length<=1048576)(B:y.sure<=y.bytes.length):cJ {D with files:=iS D.files g y} :=
 ⟨h.pos,h.most,h.many,fun p hp=>qp _ _ _ _ (h.now p hp),fun p hp=>qp _ _ _ _ (h.sure p hp),
   fun p hp=>(zY _ _ _ _ hp).elim (fun hp=>h.len p hp) (fun e=>by rw[e];exact z),fun p hp=>(zY _ _ _ _ hp).elim (fun hp=>h.upto p hp) (fun e=>by rw[e];exact B),h.keys,h.Iv,h.inj,h.MW,h.named,h.C9,h.IA⟩
abbrev ap (g:Nat):Value:=.pointer (some ⟨g,0,none⟩)
def js (L:qP):eR:=ly ap L
def b7 (l:List UInt8):List Value:=l.map fun b=>.int .u8 b.toNat
theorem fg (l:List UInt8):(b7 l).length=l.length:=by simp[b7]
theorem io (l:List UInt8):∀u∈b7 l,u.oneCell'=true:=by
 intro u y;obtain⟨b,_,rfl⟩:=Zz.1 y;rfl
theorem eC (a b:List UInt8):b7 (a++b)=b7 a++b7 b:=by simp[b7]
def Ip (g:Nat)(f:dr):ba:=ex fun v:Value=>aE g (.cells #[.int .i64 (f.sure:Int),v] 96 (0,0))*ar 5 1 v f.bytes.length (b7 f.bytes)
def fx:ep->ba
 | []=>sC
 | p::l=>Ip p.1 p.2*fx l
theorem sJ:∀(T:ep)(g:Nat)(f:dr),cw T g=some f->fx T=Ip g f*fx (iY T g)
 | [],_,_,h=>by cases h
 | p::l,g,f,h=>by
   unfold cw at h;by_cases hp:p.1=g
   ·rw[if_pos hp]at h;injection h with h;subst h;subst hp;simp[fx,iY]
   ·rw[if_neg hp]at h
    simp only[fx,iY,if_neg hp];rw[sJ l g f h,cC]
theorem zk:∀(T:ep)(g:Nat)(f y:dr),cw T g=some f->fx (iS T g y)=Ip g y*fx (iY T g)
 | [],_,_,_,h=>by cases h
 | p::l,g,f,y,h=>by
   unfold cw at h;by_cases hp:p.1=g
   ·simp[fx,iY,iS,hp]
   ·rw[if_neg hp]at h
    simp only[fx,iY,iS,if_neg hp];rw[zk l g f y h,cC]
instance eM.files (T:ep):eM (fx T) fx T sC:=⟨(eI _).symm⟩
def Nd (e:TypeId)(size:Nat)(v:Value)(q:Nat×List Value):ba:=ar e size v q.1 q.2
instance eM.row (e:TypeId)(size:Nat)(v:Value)(n:Nat)(xs:List Value):eM (ar e size v n xs) (Nd e size v) (n,xs) sC:=⟨(eI _).symm⟩
def bv (p:Nat)(D:aq):ba :=
 ex fun r:Nat×Nat=>xX (cJ D)*(aE p (.cells #[.int .i64 (D.size:Int),.map (some r.1),.map (some r.2)] 91 (0,0))*(gv r.1 (js D.now)*(gv r.2 (js D.sure)*fx D.files)))
instance eM.disk (p:Nat)(D:aq):eM (bv p D) (bv p) D sC:=⟨(eI _).symm⟩
section
variable {w w0:World}{S F:ba}{p rn rs:Nat}{D:aq}
theorem ie (m:Mod w w0 S)(t:eM S (bv p) D F):∃rn rs,cJ D/\Mod w w0 (aE p (.cells #[.int .i64 (D.size:Int),.map (some rn),.map (some rs)] 91 (0,0))*(gv rn (js D.now)*(gv rs (js D.sure)*(fx D.files*F)))):=by
 have z:Mod w w0 (bv p D*F):=by rw[<-t.eq];exact m
 obtain⟨⟨rn,rs⟩,y⟩:=Mod.open (w:=w) (w0:=w0) (m:=z);rw[bo]at y;obtain⟨h,B⟩:=Mod.qD (w:=w) (w0:=w0) (m:=y);exact⟨rn,rs,h,by simpa only[bo]using B⟩
theorem oT {g:Nat}{f:dr}{T:ep}(m:Mod w w0 S)(t:eM S fx T F)(h:cw T g=some f) :
 ∃A c,Mod w w0 (aE g (.cells #[.int .i64 (f.sure:Int),.slice A f.bytes.length c] 96 (0,0))*(ar 5 1 (.slice A f.bytes.length c) f.bytes.length (b7 f.bytes)*(fx (iY T g)*F))):=by
 have B:Mod w w0 (fx T*F):=by rw[<-t.eq];exact m
 rw[sJ T g f h,bo]at B;obtain⟨v,z⟩:=Mod.open (w:=w) (w0:=w0) (m:=B);rw[bo]at z
 have J:∃A c,v=.slice A f.bytes.length c:=by
  have K:Mod w w0 (ar 5 1 v f.bytes.length (b7 f.bytes)*(aE g (.cells #[.int .i64 (f.sure:Int),v] 96 (0,0))*(fx (iY T g)*F))):=by rw[cC];exact z
  rcases (fW K).2 with⟨y,I⟩ | ⟨g,cap,E,y,_⟩
  ·exact⟨none,0,by rw[y,I]⟩
  ·exact⟨_,_,y⟩
 obtain⟨A,c,rfl⟩:=J;exact⟨A,c,z⟩
theorem oU {g:Nat}{J:Int}{v:Value}{n:Nat}{xs:List Value}{B E z:ba}{I:ep}(m:Mod w w0 S) [Y:eM S (aE g) (.cells #[.int .i64 J,v] 96 (0,0)) B] [Z:eM B (Nd 5 1 v) (n,xs) E] [t3:eM E fx I z]
 {T:ep} {f:dr} (V:cw T g=some f) (U:I=iY T g) (y:dr) (K:J=(y.sure:Int)) (M:n=y.bytes.length) (O:xs=b7 y.bytes):Mod w w0 (fx (iS T g y)*z):=by
 subst K M O U;rw[zk T g f y V,bo]
 have e:S=aE g (.cells #[.int .i64 (y.sure:Int),v] 96 (0,0))*(ar 5 1 v y.bytes.length (b7 y.bytes)*(fx (iY T g)*z)):=by
  rw[Y.eq,Z.eq,t3.eq];rfl
 rw[e,<-bo]at m;exact Mod.shut v (m:=m)
theorem kX {B V Y Z y:ba}{sz:Int}{O U:eR}{T:ep}(m:Mod w w0 B) [t1:eM B (aE p) (.cells #[.int .i64 sz,.map (some rn),.map (some rs)] 91 (0,0)) V] [t2:eM V (gv rn) O Y] [t3:eM Y (gv rs) U Z] [t4:eM Z fx T y] [s:Sub y F]
 (D:aq) (M:cJ D) (E:sz=(D.size:Int)) (I:O=js D.now) (J:U=js D.sure) (K:T=D.files):Mod w w0 (bv p D*F):=by
 subst E I J K
 have e:B=aE p (.cells #[.int .i64 (D.size:Int),.map (some rn),.map (some rs)] 91 (0,0))*(gv rn (js D.now)*(gv rs (js D.sure)*fx D.files))*y:=by
  rw[t1.eq,t2.eq,t3.eq,t4.eq];simp only[bo]
 have m1:Mod w w0 (xX (cJ D)*(aE p (.cells #[.int .i64 (D.size:Int),.map (some rn),.map (some rs)] 91 (0,0))*(gv rn (js D.now)*(gv rs (js D.sure)*fx D.files)))*y):=by
  rw[bo,<-e];exact Mod.AG M (m:=m)
 have z:Mod w w0 (bv p D*y):=Mod.shut (G:=fun r:Nat×Nat=>xX (cJ D)*(aE p (.cells #[.int .i64 (D.size:Int),.map (some r.1),.map (some r.2)] 91 (0,0))*(gv r.1 (js D.now)*(gv r.2 (js D.sure)*fx D.files)))) (rn,rs) (m:=m1);refine⟨z.os,z.tape,z.output,?_⟩;have h:=z.says;rw[bo]at h ⊢;obtain⟨a,b,E,I,J,K⟩:=h;exact⟨a,b,E,I,J,s.sub _ K⟩
theorem Lt:∀(T:ep)(g:Nat)(f:dr)(h:Hp),(fx T).says h->cw T g=some f->(h g).isSome=true:=by
 intro T g f h hs z;rw[sJ T g f z]at hs;obtain⟨a,b,_,rfl,⟨v,c,d,_,rfl,y,_⟩,_⟩:=hs;have y:c=Hp.one g (.cells #[.int .i64 (f.sure:Int),v] 96 (0,0)):=y;simp[Hp.join,y,Hp.one]
theorem Gg {T:ep}(m:Mod w w0 S)(t:eM S fx T F):cw T w.heap.size=none:=by
 cases h:cw T w.heap.size with
 | none=>rfl
 | some f =>
   have hs:=m.says;rw[t.eq,bo]at hs;obtain⟨a,b,_,y,B,_⟩:=hs;have z:=Lt T _ f a B h;obtain⟨o,E⟩:=YQ.1 z;have:hp w w.heap.size=some o:=by rw[y];simp[Hp.join,E]
   simp[hp]at this
end
def jY (D:aq)(name:ByteArray)(g:Nat):aq:={D with now:=cV D.now name g,files:=(g,⟨[],0⟩)::D.files}
theorem ph {α:Type}{L:List (ByteArray×α)}{s:ByteArray}(h:br L s=none)(v:α):cV L s v=L++[(s,v)]:=by
 unfold cV;rw[if_neg];intro e;obtain⟨q,E,y⟩:=Yb.1 e;unfold br at h;have z:L.find? (fun p=>decide (p.1=s))=none:=by cases B:L.find? (fun p=>decide (p.1=s))with | none=>rfl | some x=>rw[B]at h;cases h
 exact Y9.1 z q E y
theorem ot {α:Type}{L:List (ByteArray×α)}{s:ByteArray}(h:br L s=none)(q:ByteArray×α)(B:q∈L):q.1≠s:=fun e=>by
 unfold br at h;have y:L.find? (fun p=>decide (p.1=s))=none:=by cases z:L.find? (fun p=>decide (p.1=s))with | none=>rfl | some x=>rw[z]at h;cases h
 exact Y9.1 y q B (by simp[e])
theorem FS {D:aq}(h:cJ D){name:ByteArray}{g:Nat}(hn:eo name=true)(M:br D.now name=none)(O:D.now.length<64)(K:cw D.files g=none):cJ (jY D name g):=by
 have B:∀k,(cw D.files k).isSome=true->(cw ((g,(⟨[],0⟩:dr))::D.files) k).isSome=true:=fun k U=>by
  simp only[cw]
  split
  ·rfl
  ·exact U
 have z:cV D.now name g=D.now++[(name,g)]:=ph M g;refine⟨h.pos,h.most,by show (cV D.now name g).length<=64;rw[z];simp;omega,fun q y=>?_,fun q y=>B _ (h.sure q y),fun q y=>?_,fun q y=>?_,?_,h.Iv,?_,h.MW,fun q y=>?_,h.C9,h.IA⟩
 ·have y:q∈cV D.now name g:=y
  rw[z,ZA,ZE]at y;rcases y with y | rfl
  ·exact B _ (h.now q y)
  ·simp[jY,cw]
 ·rcases Zu.1 y with rfl | y
  ·simp
  ·exact h.len q y
 ·rcases Zu.1 y with rfl | y
  ·simp
  ·exact h.upto q y
 ·show ((cV D.now name g).map (·.1)).Nodup
  rw[z,ZP,Yx];refine⟨h.keys,by simp,fun a J b I e=>?_⟩;simp only[Zy,Ye,ZE]at I;subst I;rw[<-e]at M;obtain⟨q,y,E⟩:=Zz.1 J;exact ot M q y E
 ·show ((cV D.now name g).map (·.2)).Nodup
  rw[z,ZP,Yx];refine⟨h.inj,by simp,fun a J b I e=>?_⟩;simp only[Zy,Ye,ZE]at I;subst I;obtain⟨q,y,E⟩:=Zz.1 J;have:=h.now q y;rw[E,e,K]at this;cases this
 ·have y:q∈cV D.now name g:=y
  rw[z,ZA,ZE]at y;rcases y with y | rfl
  ·exact h.named q y
  ·exact hn
theorem Oo {D:aq}(h:cJ D){L:qP}(hs:L.Sublist D.now):cJ {D with now:=L} :=
 ⟨h.pos,h.most,Yl hs.length_le h.many,fun p hp=>h.now p (hs.subset hp),h.sure,h.len,h.upto,h.keys.sublist (hs.map _),h.Iv,h.inj.sublist (hs.map _),h.MW,fun q y=>h.named q (hs.subset y),h.C9,h.IA⟩
theorem kT {α:Type}(L:List (ByteArray×α))(s:ByteArray):(cG L s).Sublist L:=ZT
theorem gI {D:aq}(h:cJ D)(name:ByteArray):cJ {D with now:=cG D.now name}:=Oo h (kT _ _)
theorem L7 {D:aq}(h:cJ D):cJ {D with sure:=D.now}:=⟨h.pos,h.most,h.many,h.now,h.now,h.len,h.upto,h.keys,h.keys,h.inj,h.inj,h.named,h.named,h.many⟩
theorem fj {α:Type}{L:List (ByteArray×α)}{s:ByteArray}{v:α}(h:br L s=some v):(s,v)∈L:=by
 unfold br at h
 cases y:L.find? (fun p=>decide (p.1=s))with
 | none=>rw[y]at h;cases h
 | some x =>
   rw[y]at h;injection h with h;have z:=YA y;have B:=X4 y;rw[<-h,<-of_decide_eq_true B];exact z
theorem L4 {L:qP}{s:ByteArray}{g:Nat}(I:(L.map (·.1)).Nodup)(K:(L.map (·.2)).Nodup)(E:g ∉ L.map (·.2)):((cV L s g).map (·.1)).Nodup/\((cV L s g).map (·.2)).Nodup:=by
 unfold cV
 split
 ·constructor
  ·have e:(L.map fun p=>if p.1=s then (p.1,g)else p).map (·.1)=L.map (·.1):=by
    rw[Yw];apply YS;intro p _;simp only[Function.comp];split <;> rfl
   rw[e];exact I
  ·rename_i hany
   clear hany
   induction L with
   | nil=>simp
   | cons p l Y =>
     simp only[Zy,Yq,Zu,not_or]at I K E;have Y:=Y I.2 K.2 E.2;simp only[Zy,Yq];refine⟨?_,Y⟩;by_cases hp:p.1=s
     ·rw[if_pos hp]
      intro J;rw[Yw]at J;obtain⟨q,z,y⟩:=Zz.1 J;simp only[Function.comp]at y;have V:q.1≠s:=fun e=>I.1 (by rw[hp,<-e];exact ZC z);rw[if_neg V]at y;exact E.2 (by rw[<-y];exact ZC z)
     ·rw[if_neg hp]
      intro J;rw[Yw]at J;obtain⟨q,z,y⟩:=Zz.1 J;simp only[Function.comp]at y
      split at y
      ·exact E.1 y
      ·exact K.1 (by rw[<-y];exact ZC z)
 ·rename_i hany
  have O:∀p∈L,p.1≠s:=fun p hp e=>hany (Yb.2 ⟨p,hp,by simp[e]⟩);rw[ZP,ZP,Yx,Yx];refine⟨⟨I,by simp,fun a M b B e=>?_⟩,K,by simp,fun a M b B e=>?_⟩
  ·simp only[Zy,Ye,ZE]at B
   obtain⟨q,z,U⟩:=Zz.1 M;exact O q z (by rw[U,e,B])
  ·simp only[Zy,Ye,ZE]at B
   exact E (by rw[<-B,<-e];exact M)
theorem sS {α:Type}(L:List (ByteArray×α))(s:ByteArray)(v:α):(cV L s v).length<=L.length+1:=by
 unfold cV;split <;> simp
theorem Et {α:Type}{L:List (ByteArray×α)}{s:ByteArray}{v:α}{q:ByteArray×α}(h:q∈cV L s v):q∈L\/q=(s,v):=by
 unfold cV at h
 split at h
 ·obtain⟨p,hp,rfl⟩:=Zz.1 h
  by_cases hs:p.1=s
  ·rw[if_pos hs];exact .inr (by rw[hs])
  ·rw[if_neg hs];exact .inl hp
 ·rcases ZA.1 h with h | h
  ·exact .inl h
  ·exact .inr (ZE.1 h)
theorem zW {α:Type}{L:List (ByteArray×α)}{s:ByteArray}{v:α}(h:br L s=some v):(cG L s).length<L.length:=by
 have:=fj h;unfold cG;refine List.length_filter_lt_length_iff_exists.2 ⟨(s,v),this,by simp⟩
def yu (D:aq)(y to:ByteArray)(g:Nat):aq:={D with now:=cV (cG D.now y) to g}
theorem GU {D:aq}(h:cJ D){a b:ByteArray}{g:Nat}(hn:eo b=true)(K:br D.now a=some g):cJ (yu D a b g):=by
 have I:=gI h a
 have E:g ∉ (cG D.now a).map (·.2):=by
  intro hm;obtain⟨q,y,Y⟩:=Zz.1 hm;have U:q∈D.now:=(kT _ _).subset y
  have V:q.1≠a:=by
   have:=(ZB.1 y).2;simpa using this
  have J:=fj K;obtain⟨i,Z,B⟩:=ZI.1 U;obtain⟨j,hj,z⟩:=ZI.1 J
  have M:i=j:=by
   have:=Xm (xs:=D.now.map (·.2)) (h₀:=by simpa using Z) (h₁:=by simpa using hj) h.inj;simp only[Xa,B,z]at this;exact this.1 Y
  subst M;rw[B]at z;exact V (by rw[z])
 obtain⟨k1,k2⟩:=L4 (s:=b) I.keys I.inj E;have aa:=zW K;have O:=h.many;refine⟨h.pos,h.most,by show (cV (cG D.now a) b g).length<=64;have:=sS (cG D.now a) b g;omega,fun q y=>?_,h.sure,h.len,h.upto,k1,h.Iv,k2,h.MW,fun q y=>?_,h.C9,h.IA⟩
 ·rcases Et y with y | rfl
  ·exact I.now q y
  ·exact h.now (a,g) (fj K)
 ·rcases Et y with y | rfl
  ·exact I.named q y
  ·exact hn
theorem Ls {w w0:World}{S F z:ba}{T:ep}{g:Nat}(m:Mod w w0 S) [J:eM S (aE g) (.cells #[.int .i64 0,.slice none 0 0] 96 (0,0)) F] [K:eM F fx T z]:Mod w w0 (fx ((g,⟨[],0⟩)::T)*z):=by
 have e:S=aE g (.cells #[.int .i64 0,.slice none 0 0] 96 (0,0))*(fx T*z):=by rw[J.eq,K.eq]
 rw[e]at m
 have B:Mod w w0 (Ip g ⟨[],0⟩*(fx T*z)):=by
  have:Mod w w0 ((aE g (.cells #[.int .i64 0,.slice none 0 0] 96 (0,0))*ar 5 1 (.slice none 0 0) 0 [])*(fx T*z)):=by
   refine Mod.conv (S:=aE g (.cells #[.int .i64 0,.slice none 0 0] 96 (0,0))*(fx T*z)) (m:=m) fun x E=>lF (fun y I=>?_) E;exact⟨y,Hp.none,fun k=>.inr rfl,by funext k;simp[Hp.join,Hp.none],I,gM _ _⟩
  exact Mod.shut (G:=fun v:Value=>aE g (.cells #[.int .i64 0,v] 96 (0,0))*ar 5 1 v 0 []) (.slice none 0 0) (m:=this)
 rw[<-bo]at B;exact B
open Go.RowKit Go.Sl
attribute [local go_sem] ab bh bd
theorem IK {k:IntKind}{a b:Int}(h:a=b):Ending.returned (.int k a)=.returned (.int k b):=by rw[h]
theorem qt:∀(T:ep)(g:Nat)(f:dr),cw T g=some f->iS T g f=T
 | [],_,_,h=>by cases h
 | p::l,g,f,h=>by
   unfold cw at h;unfold iS;by_cases hp:p.1=g
   ·rw[if_pos hp]at h ⊢;injection h with h;rw[<-h,<-hp]
   ·rw[if_neg hp]at h ⊢;rw[qt l g f h]
theorem OF {w w0:World}{S F:ba}{p:Nat}{D:aq}(t:eM S (bv p) D F)(m:Mod w w0 (bv p D*F)):Mod w w0 S:=by rw[t.eq];exact m
theorem nI {L:qP}{s:ByteArray}{g:Nat}(h:br L s=some g):br (js L) s=some (ap g):=by rw[js,xN,h];rfl
theorem pg {L:qP}{s:ByteArray}(h:br L s=none):br (js L) s=none:=by rw[js,xN,h];rfl
theorem mg {w w0:World}{S F:ba}{p rn rs:Nat}{D:aq}{z B E I J:ba}{T:ep}(t:eM S (bv p) D F)(m:Mod w w0 z) [M:eM z (aE p) (.cells #[.int .i64 (D.size:Int),.map (some rn),.map (some rs)] 91 (0,0)) B] [O:eM B (gv rn) (js D.now) E] [U:eM E (gv rs) (js D.sure) I] [t4:eM I fx T J] [s:Sub J F]
 (y:cJ D) (K:T=D.files):Mod w w0 S:=OF t (kX m D y rfl rfl rfl K)
theorem wU (p:Nat)(D:aq)(name:ByteArray)(g:Nat)(f:dr)(w w0:World)(S F:ba)(m:Mod w w0 S)(t:eM S (bv p) D F)(hs:name.size<=9223372036854775807)
 (hn:eo name=true) (J:br D.now name=some g) (E:cw D.files g=some f) :
 Calls Tryz.prog 47 #[.pointer (some ⟨p,0,none⟩),.string name] w fun e M=>e=.returned (.tuple #[.int .i64 (f.bytes.length:Int),.int .i64 0])/\Mod M w0 S:=by
 obtain⟨rn,rs,y,K⟩:=ie m t;obtain⟨B,c,Y⟩:=oT K zbk E;clear m K;have O:=zbj (nI J);have U:=zbj hn;have I:=zbj E;have z:(0:Int)<D.size:=by have:=y.pos;omega
 clear J hn E;go_enter Tryz.func47,Tryz.ntmps47
 go_wp2_with (go_at_call 96;refine(lC p rn rs D.size true name (js D.now) _ w0 _ (ap g) z hs U.out O.out).mono ?_;rintro e M ⟨rfl,_inst⟩)
 go_ret2
 have V:=oU _inst I.out rfl f rfl rfl rfl;exact⟨rfl,OF t (kX V D y rfl rfl rfl (qt _ _ _ I.out))⟩
theorem wT (p:Nat)(D:aq)(name:ByteArray)(w w0:World)(S F:ba)(m:Mod w w0 S)(t:eM S (bv p) D F)(hs:name.size<=9223372036854775807)
 (hn:eo name=true) (B:br D.now name=none) :
 Calls Tryz.prog 47 #[.pointer (some ⟨p,0,none⟩),.string name] w fun e E=>e=.returned (.tuple #[.int .i64 0,.int .i64 7])/\Mod E w0 S:=by
 obtain⟨rn,rs,y,K⟩:=ie m t;clear m;have I:=zbj (pg B);have J:=zbj hn;have z:(0:Int)<D.size:=by have:=y.pos;omega
 clear B hn;go_enter Tryz.func47,Tryz.ntmps47
 go_wp2_with (go_at_call 96;refine(wG p rn rs D.size true name (js D.now) _ w0 _ z hs J.out I.out).mono ?_;rintro e E ⟨rfl,_inst⟩)
 go_ret2
 exact⟨rfl,mg t _inst y rfl⟩
def eh (T:ep):qP->Nat
 | []=>0
 | q::L=>((cw T q.2).map (·.bytes.length)).getD 0+eh T L
def leftOf (D:aq):Nat:=D.size-eh D.files D.now
theorem ya (T:ep):∀(L:qP)(i:Nat)(h:i<L.length),eh T L=((cw T L[i].2).map (·.bytes.length)).getD 0+eh T (L.eraseIdx i)
 | [],i,h=>by simp at h
 | q::L,0,_=>rfl
 | q::L,i+1,h=>by
   have h':i<L.length:=by simpa using h
   simp only[eh,List.getElem_cons_succ,List.eraseIdx_cons_succ];rw[ya T L i h'];omega
theorem Ba {D:aq}(y:cJ D):∀(L:qP),eh D.files L<=L.length*1048576
 | []=>by simp[eh]
 | q::L=>by
   have z:=Ba y L;simp only[eh,List.length_cons]
   have:((cw D.files q.2).map (·.bytes.length)).getD 0<=1048576:=by
    cases h:cw D.files q.2 with
    | none=>simp
    | some f=>have:=y.len _ (jo _ _ _ h);simpa using this
   omega
theorem wL (p:Nat)(D:aq)(w w0:World)(S F:ba)(m:Mod w w0 S)(t:eM S (bv p) D F) :
 Calls Tryz.prog 128 #[.pointer (some ⟨p,0,none⟩)] w fun e Z=>e=.returned (.int .i64 (leftOf D:Int))/\Mod Z w0 S:=by
 obtain⟨rn,rs,y,m1⟩:=ie m t;clear m;have U:(0:Int)<D.size:=by have:=y.pos;omega
 go_enter Tryz.func128,Tryz.ntmps128
 go_wp2_with (go_at_call 93;refine(rW p D.size _ _ _ w0 _ U).mono ?_;rintro e Z ⟨rfl,rfl⟩)
 go_loopg [3] D.now.length (fun gk n wr=>∃(left:qP)(M:Option (ByteArray×Value)),Hid (gk=left.length)/\n=.int .i64 ((D.size:Int)-eh D.files D.now+eh D.files left)/\Hid (∀q∈left,(cw D.files q.2).isSome=true)/\left.length<=64 /\
  Mod wr w0 (kQ w.heap.size rn (js D.now) (js left) M*(aE p (.cells #[.int .i64 (D.size:Int),.map (some rn),.map (some rs)] 91 (0,0))*(gv rs (js D.sure)*(fx D.files*F)))))
 case atStart=>exact⟨D.now,none,rfl,by congr 1;omega,y.now,y.many,Mod.to (S:=kQ w.heap.size rn (js D.now) (js D.now) none*(aE p (.cells #[.int .i64 (D.size:Int),.map (some rn),.map (some rs)] 91 (0,0))*(sC*(gv rs (js D.sure)*(fx D.files*F))))) (by rw[b9])⟩
 case round =>
  obtain⟨left,M,Hk,rfl,J,ag,m2⟩:=hrel;have ai:=Ba y D.now;have aj:=Ba y left;have ae:=y.many;have af:=y.most;go_wp2_with (refine nS rfl (.tmp 17) rfl rfl m2 ?_ ?_)
  ·intro hl Z K
   have aa:left=[]:=by simpa [js,ly]using hl
   subst aa;clear m2 Hk J;have Y:=zF K;clear K;by_cases hv:(0:Int)<=D.size-eh D.files D.now+eh D.files []
   ·go_wp2
    go_ret
    refine⟨IK ?_,mg t Y y rfl⟩;unfold leftOf;simp only[eh]at hv ⊢
    first | omega | (split <;> omega)
   ·go_wp2
    go_ret
    refine⟨IK ?_,mg t Y y rfl⟩;unfold leftOf;simp only[eh]at hv ⊢
    first | omega | (split <;> omega)
  ·intro i hi Z K
   have E:i<left.length:=by simpa [js,ly]using hi
   have e1:(js left)[i]=(left[i].1,ap left[i].2):=by simp[js,ly]
   have e2:(js left).eraseIdx i=js (left.eraseIdx i):=by simp[js,ly,dq]
   rw[e1,e2]at K;rw[e1];obtain⟨f,O⟩:=YQ.1 (J.out left[i] (Zq E));obtain⟨B,c,Y⟩:=oT K zbk O
   have I:eh D.files left=f.bytes.length+eh D.files (left.eraseIdx i):=by
    have:=ya D.files left i E;rw[O]at this;simpa using this
   have z:=y.len _ (jo _ _ _ O);have V:f.bytes.length<=1048576:=z;clear m2 K z;have Hf:=zbj O;have Ht:=zbj I;have ah:f.bytes.length<=eh D.files left:=oMg
   clear O I e1 e2 hi;generalize left[i].2=g at *;generalize left[i].1=nm at *;go_wp2
   go_roundg (left.eraseIdx i).length
   case measure=>rw[Hk.out,XN E];omega
   case rel =>
    refine⟨left.eraseIdx i,some (nm,ap g),rfl,?_,?_,?_,?_⟩
    ·congr 1;have:=Ht.out;omega
    ·intro q hq;exact J.out q ((Yy _ _).subset hq)
    ·rw[XN E];omega
    ·have m5:=oU Y Hf.out rfl f rfl rfl rfl
     rw[qt _ _ _ Hf.out]at m5;exact Mod.to (m:=m5) (by simp only[b9];ac_rfl)
def ew (n:Nat):aq:=⟨n,[],[],[]⟩
theorem GF (n:Nat)(y:1<=n)(z:n<=8388608):cJ (ew n) :=
 ⟨y,z,by simp[ew],by simp[ew],by simp[ew],by simp[ew],by simp[ew],by simp[ew],by simp[ew],by simp[ew],by simp[ew],by simp[ew],by simp[ew],by simp[ew]⟩
theorem Ob (n:Nat)(w w0:World)(S:ba)(m:Mod w w0 S)(z:1<=n)(B:n<=8388608) :
 Calls Tryz.prog 21 #[.int .i64 (n:Int)] w fun e E=>∃p,e=.returned (.tuple #[ap p,.int .i64 0])/\Mod E w0 (bv p (ew n)*S):=by
 go_enter Tryz.func21,Tryz.ntmps21
 go_wp2
 go_ret2
 have y:Mod w w0 (sC*S):=by rw[b9];exact m
 clear m;have I:Mod w w0 (fx []*S):=y;clear y;refine⟨_,rfl,?_⟩;exact kX zbk (ew n) (GF n z B) rfl rfl rfl rfl
section
variable (p:Nat)(D:aq)(name:ByteArray)(w w0:World)(S F:ba)(m:Mod w w0 S)(t:eM S (bv p) D F)(hs:name.size<=9223372036854775807)
include m t hs
theorem wX (g:Nat)(f:dr)(hn:eo name=true)(K:br D.now name=some g)(I:cw D.files g=some f) :
 Calls Tryz.prog 92 #[.pointer (some ⟨p,0,none⟩),.string name] w fun e J=>e=.returned (.int .i64 0)/\Mod J w0 (bv p {D with files:=iS D.files g ⟨f.bytes,f.bytes.length⟩}*F):=by
 obtain⟨rn,rs,y,M⟩:=ie m t;obtain⟨B,c,Y⟩:=oT M zbk I;clear m M;have O:=zbj (nI K);have U:=zbj hn;have E:=zbj I;have z:(0:Int)<D.size:=by have:=y.pos;omega
 clear K hn I;go_enter Tryz.func92,Tryz.ntmps92
 go_wp2_with (go_at_call 96;refine(lC p rn rs D.size true name (js D.now) _ w0 _ (ap g) z hs U.out O.out).mono ?_;rintro e J ⟨rfl,_inst⟩)
 go_ret
 refine⟨rfl,?_⟩;have V:=oU (w:=J.setCell ⟨g,0,none⟩ (.int .i64 (f.bytes.length:Int))) zbk E.out rfl ⟨f.bytes,f.bytes.length⟩ rfl rfl rfl;exact kX V _ (Iq y E.out (y.len _ (jo _ _ _ E.out)) (Zm _)) rfl rfl rfl rfl
theorem sY (hn:eo name=true)(B:br D.now name=none) :
 Calls Tryz.prog 71 #[.pointer (some ⟨p,0,none⟩),.string name] w fun e E=>e=.returned (.int .i64 7)/\Mod E w0 S:=by
 obtain⟨rn,rs,y,K⟩:=ie m t;clear m;have J:=zbj hn;have z:(0:Int)<D.size:=by have:=y.pos;omega
 clear hn;have I:=zbj (pg B);clear B;go_enter Tryz.func71,Tryz.ntmps71
 go_wp2_with (go_at_call 96;refine(wG p rn rs D.size true name (js D.now) _ w0 _ z hs J.out I.out).mono ?_;rintro e E ⟨rfl,_inst⟩)
 go_ret
 exact⟨rfl,mg t _inst y rfl⟩
theorem wy (hn:eo name=true)(J:br D.now name=none)(y:D.now.length<64) :
 Calls Tryz.prog 118 #[.pointer (some ⟨p,0,none⟩),.string name] w fun e z=>∃g,e=.returned (.int .i64 0)/\cw D.files g=none/\Mod z w0 (bv p (jY D name g)*F):=by
 obtain⟨rn,rs,E,V⟩:=ie m t;clear m;have K:=zbj hn;have O:=zbj J;have I:(0:Int)<D.size:=by have:=E.pos;omega
 have U:=zbj (pg J);have M:(js D.now).length<64:=by rw[js,tU];exact y
 clear hn J;go_enter Tryz.func118,Tryz.ntmps118
 go_wp2_with (go_at_call 96;refine(wG p rn rs D.size true name (js D.now) _ w0 _ I hs K.out U.out).mono ?_;rintro e z ⟨rfl,_inst⟩)
 go_ret
 have B:=Gg _inst (zbk:eM _ fx D.files _);refine⟨z.heap.size,rfl,B,?_⟩;exact kX (Ls (g:=z.heap.size) (T:=D.files) zbk) (jY D name z.heap.size) (FS E K.out O.out y B) rfl (xR ap D.now name z.heap.size) rfl rfl
end
open Go.RowKit Go.Sl
attribute [local go_sem] ab bh bd
instance Oi:wl Tryz.prog 67 5 1:=⟨by kernel_rfl,by kernel_rfl⟩
section
variable (p:Nat)(D:aq)(name:ByteArray)(w w0:World)(S F:ba)(m:Mod w w0 S)(t:eM S (bv p) D F)(hs:name.size<=9223372036854775807)
include m t hs
theorem Kt (g:Nat)(hn:eo name=true)(E:br D.now name=some g) :
 Calls Tryz.prog 71 #[.pointer (some ⟨p,0,none⟩),.string name] w fun e B=>e=.returned (.int .i64 0)/\Mod B w0 (bv p {D with now:=cG D.now name}*F):=by
 obtain⟨rn,rs,y,K⟩:=ie m t;clear m;have J:=zbj hn;have z:(0:Int)<D.size:=by have:=y.pos;omega
 have I:=zbj (nI E);clear hn E;go_enter Tryz.func71,Tryz.ntmps71
 go_wp2_with (go_at_call 96;refine(lC p rn rs D.size true name (js D.now) _ w0 _ (ap g) z hs J.out I.out).mono ?_;rintro e B ⟨rfl,_inst⟩)
 go_ret
 refine⟨rfl,?_⟩;exact kX (w:=B.nG rn name) zbk {D with now:=cG D.now name} (gI y name) rfl (xM ap D.now name) rfl rfl
section
variable (to:ByteArray)(hs2:to.size<=9223372036854775807)
include hs2
theorem Og (hn:(eo name&&eo to)=false) :
 Calls Tryz.prog 152 #[.pointer (some ⟨p,0,none⟩),.string name,.string to] w fun e B=>e=.returned (.int .i64 1)/\Mod B w0 S:=by
 obtain⟨rn,rs,y,I⟩:=ie m t;clear m;have E:=zbj hn;have z:(0:Int)<D.size:=by have:=y.pos;omega
 clear hn;go_enter Tryz.func152,Tryz.ntmps152
 go_wp2_with (go_at_call 44;refine(uV p D.size _ _ true w.heap.size #[.string name,.string to] [name,to] _ w0 _ z rfl (by simp[hs,hs2]) 2 (by simp) 1 (by simp[E.out])).mono ?_;rintro e B ⟨rfl,_inst⟩)
 go_ret
 exact⟨rfl,mg t _inst y rfl⟩
theorem Ku (g:Nat)(hn:(eo name&&eo to)=true)(I:br D.now name=some g) :
 Calls Tryz.prog 152 #[.pointer (some ⟨p,0,none⟩),.string name,.string to] w fun e B=>e=.returned (.int .i64 0)/\Mod B w0 (bv p (yu D name to g)*F):=by
 obtain⟨rn,rs,z,O⟩:=ie m t;clear m;have J:=zbj hn;have E:Hid ((true&&eo name)=true):=by show _=_;simp at hn;simp[hn]
 have y:(0:Int)<D.size:=by have:=z.pos;omega
 have M:=zbj (nI I);have K:=zbj I;clear hn I;go_enter Tryz.func152,Tryz.ntmps152
 go_wp2_with first
  | (go_at_call 44;refine(uV p D.size _ _ true w.heap.size #[.string name,.string to] [name,to] _ w0 _ y rfl (by simp[hs,hs2]) 2 (by simp) 0 (by simp[J.out])).mono ?_;rintro e B ⟨rfl,_inst⟩)
  | (go_at_call 96;refine(lC p rn rs D.size true name (js D.now) _ w0 _ (ap g) y hs E.out M.out).mono ?_;rintro e B ⟨rfl,_inst⟩)
 go_ret
 refine⟨rfl,?_⟩;exact kX (w:=(B.nG rn name).oB rn to (ap g)) zbk (yu D name to g) (GU z (by have:=J.out;simp at this;exact this.2) K.out) rfl (by show cV (cG (ly ap D.now) name) to (ap g)=_;rw[xM,xR];rfl) rfl rfl
end
theorem xe (A:Option Addr)(k c:Nat)(g:Nat)(f:dr)(hn:eo name=true)(V:br D.now name=some g)(E:cw D.files g=some f)(_hk:k<=9223372036854775807)(h:leftOf D<k\/1048576<f.bytes.length+k) :
 Calls Tryz.prog 79 #[.pointer (some ⟨p,0,none⟩),.string name,.slice A k c] w fun e K=>e=.returned (.int .i64 6)/\Mod K w0 S:=by
 obtain⟨rn,rs,y,m1⟩:=ie m t;clear m;have U:=zbj hn;have z:(0:Int)<D.size:=by have:=y.pos;omega
 have J:(leftOf D:Int)<=8388608:=by have:=y.most;unfold leftOf;omega
 have Z:f.bytes.length<=1048576:=y.len _ (jo _ _ _ E);have O:=zbj (nI V);have Y:=zbj E;clear hn V E;by_cases I:leftOf D<k
 ·go_enter Tryz.func79,Tryz.ntmps79
  go_wp2_with first
   | (go_at_call 96;refine(lC p rn rs D.size true name (js D.now) _ w0 _ (ap g) z hs U.out O.out).mono ?_;rintro e K ⟨rfl,_inst⟩)
   | (go_at_call 128;refine(wL p D _ w0 S F (mg t _inst y rfl) t).mono ?_;rintro e M ⟨rfl,_inst2⟩)
  go_ret
  exact⟨rfl,_inst2⟩
 ·have h2:1048576<f.bytes.length+k:=h.resolve_left I
  clear h;go_enter Tryz.func79,Tryz.ntmps79
  go_wp2_with first
   | (go_at_call 96;refine(lC p rn rs D.size true name (js D.now) _ w0 _ (ap g) z hs U.out O.out).mono ?_;rintro e K ⟨rfl,_inst⟩)
   | (go_at_call 128;refine(wL p D _ w0 S F (mg t _inst y rfl) t).mono ?_;rintro e M ⟨rfl,_inst2⟩;obtain⟨aa,ae,_,_m1⟩:=ie _inst2 t;obtain⟨B,cB,_m2⟩:=oT _m1 zbk Y.out;clear _m1)
  go_ret
  exact⟨rfl,_inst2⟩
theorem wq (A:Option Addr)(c:Nat)(b:List UInt8) [r:bk F A b.length (b7 b)](g:Nat)(f:dr)(hn:eo name=true)(K:br D.now name=some g)(J:cw D.files g=some f)(h1:b.length<=leftOf D)(Y:f.bytes.length+b.length<=1048576) :
 Calls Tryz.prog 79 #[.pointer (some ⟨p,0,none⟩),.string name,.slice A b.length c] w fun e M=>e=.returned (.int .i64 0)/\Mod M w0 (bv p {D with files:=iS D.files g ⟨f.bytes++b,f.sure⟩}*F):=by
 obtain⟨rn,rs,y,m1⟩:=ie m t;clear m;have U:=zbj hn;have z:(0:Int)<D.size:=by have:=y.pos;omega
 have O:=zbj (nI K);have E:=zbj J;clear hn K J;go_enter Tryz.func79,Tryz.ntmps79
 have I:(leftOf D:Int)<=8388608:=by have:=y.most;unfold leftOf;omega
 go_wp2_with first
  | (at_builtin;(refine cS (v:=.slice B f.bytes.length V) (A:=A) (k:=b.length) (c:=c) rfl rfl _m2 rfl rfl (io _) (by unfold maxLen;omega) oMg ?_);intro A' c' w3 _m3)
  | (go_at_call 96;refine(lC p rn rs D.size true name (js D.now) _ w0 _ (ap g) z hs U.out O.out).mono ?_;rintro e M ⟨rfl,_inst⟩)
  | (go_at_call 128;refine(wL p D _ w0 S F (mg t _inst y rfl) t).mono ?_;rintro e af ⟨rfl,_inst2⟩;obtain⟨aa,ae,_,_m1⟩:=ie _inst2 t;obtain⟨B,V,_m2⟩:=oT _m1 zbk E.out;clear _m1 _inst2)
 go_ret
 refine⟨rfl,?_⟩;have Z:=oU (w:=w3.setCell ⟨g,1,none⟩ (.slice A' (f.bytes.length+b.length) c')) zbk E.out rfl ⟨f.bytes++b,f.sure⟩ rfl (by simp) (eC _ _).symm;exact kX Z _ (Iq y E.out (by simpa using Y) (by have:=y.upto _ (jo _ _ _ E.out);simp only[Ze];exact Yl this (zbc _ _))) rfl rfl rfl rfl
end
open Go.RowKit Go.Sl
attribute [local go_sem] ab bh bd
theorem kY (w:World)(a:Option Addr)(n c y c':Nat):(binOp .eql 67 (.slice a n c) (.slice none y c')).run Tryz.prog w=.ok (.bool a.isNone) w:=Lib.run_eql_slice_nil w 67 5 a n c y c' kRf
attribute [local go_sem] kY
theorem EO {w w0:World}{S:ba}{g:Nat}{e:TypeId}(m:Mod w w0 (aE g (.cells #[] e (0,0))*S)):Mod w w0 (ar e 1 (.slice (some ⟨g,0,none⟩) 0 0) 0 []*S) :=
 Mod.conv (S:=aE g (.cells #[] e (0,0))*S) fun _ h=>lF (A:=aE g (.cells #[] e (0,0))) (A':=ar e 1 (.slice (some ⟨g,0,none⟩) 0 0) 0 []) (fun _ y=>⟨rfl,.inr ⟨g,0,#[],rfl,Zm _,Zv _,rfl,rfl,y⟩⟩) h
theorem sy (A:Option Addr)(k c:Nat)(xs:List Value)(w w0:World)(S:ba)(m:Mod w w0 S)(r:bk S A k xs)(J:∀u∈xs,u.oneCell'=true)(O:k<=140737488355328) :
 Calls Tryz.prog 45 #[.slice A k c] w fun e M=>∃A' c',e=.returned (.slice A' k c')/\Mod M w0 (ar 5 1 (.slice A' k c') k xs*S):=by
 have z:=fp m r
 cases A with
 | none =>
   have B:k=0:=by
    rcases YD k with h | h
    ·exact h
    ·obtain⟨ad,K,_⟩:=cP m r h;cases K
   subst B;have E:xs=[]:=Zo z;subst E;go_enter Tryz.func45,Tryz.ntmps45
   go_wp2
   go_ret
   refine⟨none,0,rfl,Mod.conv (S:=sC*S) (m:=by rw[b9];exact m) fun _ h=>lF (A:=sC) (fun y I=>?_) h⟩;have I:y=Hp.none:=I;subst I;exact gM _ _
 | some ad =>
   go_enter Tryz.func45,Tryz.ntmps45
   go_wp2_with (at_builtin;(refine cS (v:=.slice (some ⟨w.heap.size,0,none⟩) 0 0) (A:=some ad) (k:=k) (c:=c) rfl rfl (EO zbk) rfl rfl J (by unfold maxLen;omega) oMg ?_);intro A' c' U _m3)
   go_ret
   simp only[ZM,List.nil_append,b9]at _m3 ⊢;exact⟨A',c',rfl,_m3⟩
theorem Ng {w w0:World}{S F:ba}{e:TypeId}{A:Option Addr}{n y c:Nat}{xs:List Value}(m:Mod w w0 S) [t:eM S (Nd e 1 (.slice A n c)) (y,xs) F]:y<=c:=by
 have I:Mod w w0 (ar e 1 (.slice A n c) y xs*F):=by have h:=t.eq;rw[h]at m;exact m
 rcases (fW I).2 with⟨z,E⟩ | ⟨g,cap,B,z,_,_,E,_⟩
 ·omega
 ·injection z with _ _ h;omega
theorem vm {w w0:World}{F:ba}{p rn rs:Nat}{E I J K M:ba}{O:Int}{z B:eR}{T:ep}(m:Mod w w0 E) [t1:eM E (aE p) (.cells #[.int .i64 O,.map (some rn),.map (some rs)] 91 (0,0)) I] [t2:eM I (gv rn) z J] [t3:eM J (gv rs) B K] [t4:eM K fx T M]
 (D:aq) (y:cJ D) (U:O=(D.size:Int)) (V:z=js D.now) (Y:B=js D.sure) (Z:T=D.files) (h5:M=F):Mod w w0 (bv p D*F):=by
 subst h5;exact kX m D y U V Y Z
theorem Bb (l:List UInt8)(i k:Nat):((b7 l).drop i).take k=b7 ((l.drop i).take k):=by simp[b7,List.map_drop]
theorem Kc {S:ba}(B:Option Addr)(i n:Nat)(l:List UInt8)(h:n=0):bk S B n (b7 ((l.drop i).take n)):=by subst h;simp only[List.take_zero];exact bk.jE B
theorem FL (B:Option Addr)(i n c len:Nat)(l:List UInt8)(w w0:World)(S:ba)(m:Mod w w0 S) [r:bk S B len (b7 l)](h:i+n<=len)(E:len<=1048576) :
 Calls Tryz.prog 45 #[.slice (Option.map (fun x=>x.add i) B) n c] w fun e z=>∃A' c',e=.returned (.slice A' n c')/\Mod z w0 (ar 5 1 (.slice A' n c') n (b7 ((l.drop i).take n))*S):=by
 have y:=bk.part r i n h;rw[Bb]at y;exact sy _ n c _ w w0 S m y (io _) oMg
section
variable (p:Nat)(D:aq)(name:ByteArray)(w w0:World)(S F:ba)(m:Mod w w0 S)(t:eM S (bv p) D F)(hs:name.size<=9223372036854775807)
include m t hs
theorem II (i n:Nat)(g:Nat)(f:dr)(hn:eo name=true)(Z:br D.now name=some g)(K:cw D.files g=some f)(h:i+n<=f.bytes.length) :
 Calls Tryz.prog 106 #[.pointer (some ⟨p,0,none⟩),.string name,.int .i64 (i:Int),.int .i64 (n:Int)] w fun e I=>∃A' c',e=.returned (.tuple #[.slice A' n c',.int .i64 0])/\Mod I w0 (ar 5 1 (.slice A' n c') n (b7 ((f.bytes.drop i).take n))*S):=by
 obtain⟨rn,rs,y,m1⟩:=ie m t;obtain⟨B,c,m2⟩:=oT m1 zbk K;have Y:f.bytes.length<=c:=Ng (e:=5) (A:=B) (n:=f.bytes.length) m2;have M:f.bytes.length<=1048576:=y.len _ (jo _ _ _ K);clear m m1;have V:=zbj hn;have U:=zbj (nI Z);have J:=zbj K;clear hn Z K;have z:(0:Int)<D.size:=by have:=y.pos;omega
 by_cases O:i=c
 ·subst O
  go_enter Tryz.func106,Tryz.ntmps106
  go_wp2_with first
   | (go_at_call 96;refine(lC p rn rs D.size _ name (js D.now) _ w0 _ (ap g) z hs (by simp[V.out]) U.out).mono ?_;rintro e I ⟨rfl,_inst⟩)
   | (go_at_call 45;refine(sy _ n _ (b7 ((f.bytes.drop i).take n)) I w0 _ _inst (Kc _ i n _ oMg) (io _) oMg).mono ?_;rintro e w2 ⟨A',c',rfl,_m3⟩)
  go_ret2
  refine⟨A',c',rfl,?_⟩;have E:=oU _m3 J.out rfl f rfl rfl rfl;rw[qt _ _ _ J.out]at E;rw[t.eq,cC];exact vm E D y rfl rfl rfl rfl (by simp only[b9])
 ·go_enter Tryz.func106,Tryz.ntmps106
  go_wp2_with first
   | (go_at_call 96;refine(lC p rn rs D.size _ name (js D.now) _ w0 _ (ap g) z hs (by simp[V.out]) U.out).mono ?_;rintro e I ⟨rfl,_inst⟩)
   | (go_at_call 45;refine(FL B i n _ f.bytes.length f.bytes I w0 _ _inst h M).mono ?_;rintro e w2 ⟨A',c',rfl,_m3⟩)
  go_ret2
  refine⟨A',c',rfl,?_⟩;have E:=oU _m3 J.out rfl f rfl rfl rfl;rw[qt _ _ _ J.out]at E;rw[t.eq,cC];exact vm E D y rfl rfl rfl rfl (by simp only[b9])
end
open Go.RowKit Go.Sl
attribute [local go_sem] ab bh bd
theorem CD:Tryz.prog.underlying 89=some (.map (Tryz.prog.mapKey 89) (Tryz.prog.mapElem 89)):=kRf
theorem DZ (w:World)(p:Option Nat):(binOp .eql 89 (.map p) (.map none)).run Tryz.prog w=.ok (.bool p.isNone) w:=by
 have e:∀d,(Op.equalIn (d+1) 89 (.map p) (.map none)).run Tryz.prog w=.ok p.isNone w:=fun d=>by cases p <;> simp[Op.equalIn,run_underlying CD]
 simp only[binOp];simp[show Op.equal 89 (.map p) (.map none)=Op.equalIn (9999+1) 89 (.map p) (.map none)from rfl,e 9999]
theorem wZ (w:World)(y:TypeId)(v:Value):(Instr.typeAssert (.iface 89 v) y 89 false).run Tryz.prog w=.ok v w:=by
 simp[Instr.typeAssert,run_underlying CD,go_sem,Result.andThen]
attribute [local go_sem] DZ wZ
theorem ET {P:Program}{w w0:World}{S:ba}{r:Nat}{L:eR}(m:Mod w w0 S)(O:dc S r L)(t:TypeId) :
 ∃I,(Extern.MapsClone.clone #[.iface t (.map (some r))]).run P w=.ok (.iface t (.map (some w.heap.size))) I/\Mod I w0 (gv w.heap.size L*S):=by
 obtain⟨B,z,E,J⟩:=mapBlock (w0:=w0) (S:=S) (r:=r) (L:=L) w;refine⟨w.alloc (.map B z),?_,Mod.conv (S:=aE w.heap.size (.map B z)*S) fun x K=>lF (A:=aE w.heap.size (.map B z)) (A':=gv w.heap.size L) (fun y M=>⟨B,z,E,M⟩) K⟩
 have e:Extern.MapsClone.clone #[.iface t (.map (some r))]=(getObj r >>= fun o=>match o with
  | .map entries z=>(newObj (.map entries z) >>= fun n=>pure (.iface t (.map (some n))))
  | _=>stuck "maps.clone: a map expected"):=rfl
 rw[e];simp[MapKept.run_getObj_map J,Result.andThen,go_sem]
theorem FD (v:Value)(w:World):(callFunc 95 #[v]).run Tryz.prog w=((Extern.MapsClone.clone #[v]).run Tryz.prog w).andThen fun v y=>.ok (.value v) y :=
 run_callFunc_extern Tryz.func95 kRf kRf kRf kRf _ w
theorem zV (r:Nat)(L:eR)(w w0:World)(S:ba)(m:Mod w w0 S)(z:dc S r L) :
 Calls Tryz.prog 46 #[.map (some r)] w fun e E=>∃r',e=.returned (.map (some r'))/\Mod E w0 (gv r' L*S):=by
 obtain⟨w1,y,B⟩:=ET (P:=Tryz.prog) m z 89;go_enter Tryz.func46,Tryz.ntmps46
 repeat go_step
 rw[FD,y];simp only[Result.andThen];rw[Oper.upon_value];go_wp2
 go_ret
 exact⟨_,rfl,B⟩
theorem Lb (g:Nat)(size:Int)(x y:Value)(ok:Bool)(w w0:World)(S:ba) [Mod w w0 S] [jq S g (.cells #[.int .i64 size,x,y] 91 (0,0))](z:0<size)(r:Int)(E:r=if ok=true then 0 else 1) :
 Calls Tryz.prog 44 #[.pointer (some ⟨g,0,none⟩),.bool ok,.slice none 0 0] w fun e B=>e=.returned (.int .i64 r)/\Mod B w0 S:=by
 subst E;cases ok
 all_goals
  go_enter Tryz.func44,Tryz.ntmps44
  go_wp2_with (go_at_call 93;refine(rW g size x y w w0 S z).mono ?_;rintro e B ⟨rfl,rfl⟩)
  refine wp_loop_rounds 1 ?_;rw[rounds_succ];go_wp2
  go_ret
  exact⟨rfl,zbk⟩
theorem kL (p:Nat)(D:aq)(w w0:World)(S F:ba)(m:Mod w w0 S)(t:eM S (bv p) D F) :
 Calls Tryz.prog 74 #[.pointer (some ⟨p,0,none⟩)] w fun e B=>e=.returned (.int .i64 0)/\Mod B w0 (bv p {D with sure:=D.now}*F):=by
 obtain⟨rn,rs,y,I⟩:=ie m t;clear m;have z:(0:Int)<D.size:=by have:=y.pos;omega
 go_enter Tryz.func74,Tryz.ntmps74
 go_wp2_with first
  | (go_at_call 44;refine(Lb p D.size _ _ true _ w0 _ z 0 rfl).mono ?_;rintro e B ⟨rfl,_inst⟩)
  | (go_at_call 46;refine(zV rn (js D.now) _ w0 _ _inst zbk).mono ?_;rintro e E ⟨r',rfl,_m2⟩)
 go_ret
 refine⟨rfl,?_⟩;exact kX (rs:=r') (w:=E.setCell ⟨p,2,none⟩ (.map (some r'))) zbk {D with sure:=D.now} (L7 y) rfl rfl rfl rfl
open Go Go.Sl Go.Maps
theorem Kh {P:Program}{k:TypeId}{w w0:World}{S:ba}{r:Nat}{L:eR}(m:Mod w w0 S)(h:dc S r L)(hk:P.underlying k=some .string)(hs:∀q∈L,q.1.size<=maxLen)(hl:L.length<=maxLen) :
 ∃U:DataW Unit,w.ownsMap P k (fun _=>some (.nil,[])) r L.length U/\(strKeys U).Perm (L.map (·.1.data.toList))/\Maps.size U=L.length:=by
 obtain⟨B,z,K,hw⟩:=mapBlock (w0:=w0) (S:=S) (r:=r) (L:=L) w;have J:B.size=L.length:=by have:=congrArg List.length K.keys;simpa using this
 have y:B.toList.map (·.key)=L.map fun q=>Value.string q.1:=by
  have:=congrArg (List.map Prod.fst) K.keys;simpa [Yw,Function.comp_def]using this
 have M:∀x∈B.toList,∃q∈L,x.key=.string q.1/\WideElems.rd P k (fun _=>some ((.nil:DataW Unit),[])) x=some (.string q.1.data.toList,.nil):=by
  intro x O;have h1:x.key∈L.map fun q=>Value.string q.1:=by rw[<-y];exact ZC O
  obtain⟨q,hq,E⟩:=Zz.1 h1;refine⟨q,hq,E.symm,?_⟩
  have Y:keyOf P k x.key=some (.string q.1.data.toList):=by
   rw[<-E];simp[keyOf,hk,mapKey,hs q hq]
  simp[WideElems.rd,Y]
 have I:WideElems.Fit P k (fun _=>some ((.nil:DataW Unit),[])) B z:=by
  refine⟨oMg,⟨K.lt,?_,?_⟩,fun x O=>let ⟨q,_,_,h⟩:=M x O;⟨_,h⟩⟩
  ·exact Y5.2 (K.born.imp fun h e=>by omega)
  ·rw[y]
   have:=K.nodup;have e:(L.map fun q=>Value.string q.1)=(L.map (·.1)).map Value.string:=by rw[Yw];rfl
   rw[e];refine Y5.2 (this.imp fun Z V=>Z ?_);injection V
 refine⟨_,⟨B,z,hw,I,oMg,rfl⟩,?_,?_⟩
 ·have hp:=WideShapes.sorted_perm (B.toList.map (WideElems.rg P k (fun _=>some ((.nil:DataW Unit),[]))))
  refine(hp.map fun p=>strOf p.1).trans ?_;rw[Yw]
  have e:B.toList.map ((fun p:Lit×DataW Unit=>strOf p.1)∘WideElems.rg P k (fun _=>some ((.nil:DataW Unit),[])))=L.map (·.1.data.toList):=by
   have h2:∀x∈B.toList,((fun p:Lit×DataW Unit=>strOf p.1)∘WideElems.rg P k (fun _=>some ((.nil:DataW Unit),[]))) x=(fun v=>match v with | .string s=>s.data.toList | _=>[]) x.key:=by
    intro x O;obtain⟨q,hq,E,h⟩:=M x O;simp[Function.comp,WideElems.rg,h,E,strOf]
   rw[YS h2];have h3:=congrArg (List.map fun v=>match v with | Value.string s=>s.data.toList | _=>[]) y;rw[Yw,Yw]at h3;exact h3
  rw[e]
 ·rw[Maps.size_eq]
  have:=(WideShapes.sorted_perm (B.toList.map (WideElems.rg P k (fun _=>some ((.nil:DataW Unit),[]))))).length_eq;rw[this];simp[J]
end Go.Proofs.YtdfppjcaelghhaaGreatDoor
