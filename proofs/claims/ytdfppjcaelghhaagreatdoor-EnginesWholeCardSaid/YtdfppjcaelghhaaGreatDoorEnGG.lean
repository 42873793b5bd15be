/- Plain lemmas and contracts; the conditions are in each. -/
import Derived.Recover
import Derived.Test.YtdfppjcaelghhaaGreatDoorEnFG
import Derived.Test.YtdfppjcaelghhaaGreatDoorMfAG
set_option maxRecDepth 8000
set_option maxHeartbeats 4000000
namespace Go.Proofs.YtdfppjcaelghhaaGreatDoor
open Go Go.Sl
def yZ (c:UInt8)(n:Nat):ByteArray:=⟨(c::45::Lib.decDigits n).toArray⟩
abbrev cY (n:Nat):ByteArray:=yZ 101 n
abbrev ez (n:Nat):ByteArray:=yZ 106 n
theorem um (c:UInt8)(n:Nat):(yZ c n).data.toList=c::45::Lib.decDigits n:=rfl
theorem iR {c:UInt8}{n:Nat}(h:n<4294967296):(yZ c n).size<=12:=by
 have:=l6 h;show (c::45::Lib.decDigits n).toArray.size<=12;rw[Zl];simp;omega
theorem ql {c c':UInt8}{u v:Nat}(B:u<4294967296)(E:v<4294967296)(h:yZ c u=yZ c' v):c=c'/\u=v:=by
 have y:=congrArg (fun b:ByteArray=>b.data.toList) h;simp only[um]at y;injection y with z y;injection y with _ y;exact⟨z,yY B E y⟩
theorem DO {c:UInt8}(z:kS.contains c=true){n:Nat}(h:n<4294967296):eo (yZ c n)=true:=by
 have B:=l6 h;refine pj (by simp) (by simp;omega) fun b y=>?_;rcases Zu.1 y with rfl | y
 ·exact z
 rcases Zu.1 y with rfl | y
 ·decide
 have hd:=ul n b y;have:=BW ⟨b.toNat,UInt8.toNat_lt b⟩ hd.1 hd.2
 rwa [UInt8.ofNat_toNat]at this
theorem sB {n:Nat}(h:n<4294967296):eo (cY n)=true:=DO (by decide) h
theorem vF {n:Nat}(h:n<4294967296):eo (ez n)=true:=DO (by decide) h
theorem uo {n:Nat}(h:n<4294967296):(cY n).size<=9223372036854775807:=Yl (iR h) (by decide)
theorem uy {n:Nat}(h:n<4294967296):(ez n).size<=9223372036854775807:=Yl (iR h) (by decide)
theorem qm (n:Nat):gc (cY n)=false:=by unfold gc;rw[um];rfl
theorem oW (n:Nat):gc (ez n)=false:=by unfold gc;rw[um];rfl
theorem jJ {u v:Nat}(y:u<4294967296)(z:v<4294967296):cY u≠ez v:=fun h=>absurd (ql y z h).1 (by decide)
structure lc where
 key:ByteArray
 value:ByteArray
 gone:Bool
def lc.cells (x:lc):List Value:=[.string x.key,.string x.value,.bool x.gone]
def sw (c:lc):Bool:=mj c.key&&decide (c.value.size<=256) && !(c.gone && !c.value.toList.isEmpty)
def dp (seq:Nat):List lc->List ao
 | []=>[]
 | c::l=>if l.any (fun d=>decide (d.key=c.key))then dp seq l else ⟨c.key,seq,c.gone,c.value⟩::dp seq l
theorem nA (seq:Nat):∀l:List lc,(dp seq l).length<=l.length
 | []=>Zm _
 | c::l=>by
   have:=nA seq l;unfold dp
   split <;> simp only[List.length_cons] <;> omega
theorem nB {seq:Nat}:∀{l:List lc}{x:ao},x∈dp seq l->x.seq=seq/\∃c∈l,x.key=c.key/\x.gone=c.gone/\x.value=c.value
 | [],x,h=>by cases h
 | c::l,x,h=>by
   unfold dp at h
   split at h
   ·obtain⟨y,d,z,B⟩:=nB h
    exact⟨y,d,Zh _ z,B⟩
   ·rcases Zu.1 h with rfl | h
    ·exact⟨rfl,c,Zj ..,rfl,rfl,rfl⟩
    ·obtain⟨y,d,z,B⟩:=nB h
     exact⟨y,d,Zh _ z,B⟩
theorem sI (seq:Nat):∀l:List lc,(dp seq l).Pairwise fun a b=>a.key≠b.key
 | []=>List.Pairwise.nil
 | c::l=>by
   unfold dp
   split
   ·exact sI seq l
   ·rename_i h
    refine Z5.2 ⟨fun b y e=>h ?_,sI seq l⟩;obtain⟨_,d,hd,z,_⟩:=nB y;exact Yb.2 ⟨d,hd,by simp[<-z,<-e]⟩
theorem Jo {seq:Nat}{l:List lc}(O:seq<18446744073709551616)(h:∀c∈l,sw c=true):∀x∈dp seq l,fS x:=fun x U=>by
 obtain⟨I,c,M,J,K,B⟩:=nB U;have y:=h c M;unfold sw at y;simp only[Yg,decide_eq_true_eq,Xe,zaj,Bool.not_eq_false',Xn]at y;refine⟨by rw[J];exact y.1.1,by rw[B];exact y.1.2,fun E=>?_,by rw[I];exact O⟩;rcases y.2 with z | z
 ·rw[K,z]at E;cases E
 ·rw[B,<-show c.value.toList.length=c.value.size from by rw[ByteArray.toList_eq,Array.length_toList];rfl,z];rfl
theorem Jn {seq:Nat}{l:List lc}(h:l≠[]):dp seq l≠[]:=by
 induction l with
 | nil=>exact absurd rfl h
 | cons c l y =>
   unfold dp
   split
   ·rename_i hl
    refine y fun e=>?_;rw[e]at hl;cases hl
   ·simp
open Go.RowKit Go.Sl
attribute [local go_sem] ab bj bh bd
structure qf (S:ba):Prop where
 has:∀j,j<64->∃k:Nat,k<64/\bw S 0 j (.int .u8 (k:Int))
theorem qf.lift {S' S:ba}(s:Sub S' S)(t:qf S):qf S':=⟨fun j I=>by
 obtain⟨k,J,h⟩:=t.has j I
 exact⟨k,J,⟨fun x K=>by
  obtain⟨a,b,_,y,E,_⟩:=s.sub x ⟨x,Hp.none,fun _=>.inr rfl,by funext k;simp[Hp.join,Hp.none],K,trivial⟩;obtain⟨c,e,f,z,B⟩:=h.cell a E
  exact⟨c,e,f,by rw[y];simp[Hp.join,z],B⟩⟩⟩⟩
theorem Ns (x:Nat)(_hx:x<18446744073709551616)(w w0:World)(S:ba)(m:Mod w w0 S)(t:qf S):Calls Tryz.prog 82 #[.int .u64 (x:Int)] w fun e O=>(∃k:Nat,e=.returned (.int .i64 (k:Int))/\k<=64)/\Mod O w0 S:=by
 have T:=zbj t;clear t;by_cases I:x=0
 ·subst I
  go_enter Tryz.func82,Tryz.ntmps82
  go_wp2_with fail
  go_ret
  exact⟨⟨64,rfl,Zm _⟩,m⟩
 ·have J:(((x:Int)==0)=false):=beq_eq_false_iff_ne.2 oMg
  obtain⟨z,K⟩:∃z:Nat,IntKind.u64.wrap (bits BinOp.and IntKind.u64 (x:Int) (IntKind.u64.wrap (-(x:Int)))*285870213051353865) / 288230376151711744=(z:Int)/\z<64:=by
   rw[IntKind.wrap_u64 (bits BinOp.and IntKind.u64 (x:Int) (IntKind.u64.wrap (-(x:Int)))*285870213051353865)];generalize bits BinOp.and IntKind.u64 (x:Int) (IntKind.u64.wrap (-(x:Int)))*285870213051353865=y;exact⟨(y%18446744073709551616 / 288230376151711744).toNat,oMg,oMg⟩
  obtain⟨key,B⟩:=K;obtain⟨k,U,E⟩:=T.out.has z B;have M:(z:Int)<64:=oMg
  clear B;go_enter Tryz.func82,Tryz.ntmps82
  go_wp2_with (simp only[key])
  go_ret
  exact⟨⟨k,rfl,oMg⟩,m⟩
theorem hU (y:Nat)(E I J K M O:Value)(z:Nat)(w w0:World)(S:ba)(m:Mod w w0 S)(h:jq S y (.cells #[E,ap z,I,J,K,M,O] 66 (0,0))):Calls Tryz.prog 22 #[ap y] w fun e B=>e=.returned (.bool true)/\Mod B w0 S:=by
 go_enter Tryz.func22,Tryz.ntmps22
 go_wp2_with fail
 go_ret
 exact⟨by simp,m⟩
theorem KO (w w0:World)(S:ba)(m:Mod w w0 S):Calls Tryz.prog 22 #[.pointer none] w fun e y=>e=.returned (.bool false)/\Mod y w0 S:=by
 go_enter Tryz.func22,Tryz.ntmps22
 go_wp2_with fail
 go_ret
 exact⟨by simp,m⟩
theorem g4 (w w0:World)(S:ba)(m:Mod w w0 S):Calls Tryz.prog 34 #[.int .i64 0] w fun e y=>e=.returned (.tuple #[])/\Mod y w0 S:=by
 go_enter Tryz.func34,Tryz.ntmps34
 go_wp2_with fail
 go_end0
 exact⟨rfl,m⟩
theorem DD (c:UInt8)(l:List UInt8):((⟨#[c,45]⟩:ByteArray)++⟨l.toArray⟩)=⟨(c::45::l).toArray⟩:=by
 apply Xl;apply YY.1;simp
theorem lQ (n:Nat)(hn:n<4294967296)(w w0:World)(S:ba)(m:Mod w w0 S)(t:fX S):Calls Tryz.prog 89 #[.int .u32 (n:Int)] w fun e I=>e=.returned (.string (cY n))/\Mod I w0 S:=by
 have z:=zbj (fun(u:World)(E:Mod u w0 S)=>rh n oMg u w0 S E t);have y:¬9223372036854775807<2+(Lib.decDigits n).length:=by have:=l6 hn;omega
 go_enter Tryz.func89,Tryz.ntmps89
 go_wp2_with (go_at_call 109;refine(z.out _ m).mono ?_;rintro e w1 ⟨rfl,B⟩)
 go_ret
 exact⟨congrArg (fun x=>Ending.returned (.string x)) (DD _ _),B⟩
theorem nF (n:Nat)(hn:n<4294967296)(w w0:World)(S:ba)(m:Mod w w0 S)(t:fX S):Calls Tryz.prog 72 #[.int .u32 (n:Int)] w fun e I=>e=.returned (.string (ez n))/\Mod I w0 S:=by
 have z:=zbj (fun(u:World)(E:Mod u w0 S)=>rh n oMg u w0 S E t);have y:¬9223372036854775807<2+(Lib.decDigits n).length:=by have:=l6 hn;omega
 go_enter Tryz.func72,Tryz.ntmps72
 go_wp2_with (go_at_call 109;refine(z.out _ m).mono ?_;rintro e w1 ⟨rfl,B⟩)
 go_ret
 exact⟨congrArg (fun x=>Ending.returned (.string x)) (DD _ _),B⟩
theorem N1 (y:Int):∃z:Nat,y%18446744073709551616=(z:Int)/\z<18446744073709551616:=⟨(y%18446744073709551616).toNat,oMg,oMg⟩
theorem KM (x:ao)(_hx:fS x)(w w0:World)(S:ba)(m:Mod w w0 S)(t:qf S):Calls Tryz.prog 36 #[.agg #[.string x.key,.int .u64 (x.seq:Int),.bool x.gone,.string x.value]] w fun e M=>(∃k:Nat,e=.returned (.int .i64 (k:Int))/\1<=k/\k<=8)/\Mod M w0 S:=by
 obtain⟨z,U,B⟩:∃z:Nat,bits BinOp.or IntKind.u64 (IntKind.u64.wrap (IntKind.u64.wrap ((x.seq:Int)*11400714819323198485)+IntKind.u64.wrap (x.key.size:Int))) 1048576=(z:Int)/\z<18446744073709551616:=by
  generalize IntKind.u64.wrap (IntKind.u64.wrap ((x.seq:Int)*11400714819323198485)+IntKind.u64.wrap (x.key.size:Int))=y;unfold bits;simp only;rw[IntKind.wrap_u64];exact N1 _
 have E:=zbj (fun(u:World)(G:ba)(I:Sub G S)(K:Mod u w0 G)=>Ns z B u w0 G K (t.lift I));clear t;go_enter Tryz.func36,Tryz.ntmps36
 go_wp2_with (go_at_call 82;refine(E.out _ _ zbk (Mod.alloc (m:=m) _)).mono ?_;rintro e w1 ⟨⟨k,rfl,O⟩,J⟩)
 go_ret
 exact⟨⟨1+min k 7,congrArg (fun y:Int=>Ending.returned (.int .i64 y)) oMg,oMg,oMg⟩,Mod.sub S (m:=J)⟩
theorem PS (c:lc)(w w0:World)(S:ba)(m:Mod w w0 S):Calls Tryz.prog 25 #[.agg #[.string c.key,.string c.value,.bool c.gone]] w fun e K=>e=.returned (.bool (sw c))/\Mod K w0 S:=by
 have y:=zbj (fun(u:World)(G:ba)(J:Mod u w0 G)=>fi c.key u w0 G J);obtain⟨k,v,g⟩:=c;unfold sw;simp only at y ⊢
 cases B:mj k with
 | false =>
   rw[B]at y;clear B;go_enter Tryz.func25,Tryz.ntmps25
   go_wp2_with (go_at_call 62;refine(y.out _ _ (zbk:Mod _ w0 _)).mono ?_;rintro e w1 ⟨rfl,z⟩)
   go_ret
   exact⟨by simp,Mod.sub S (m:=z)⟩
 | true =>
   rw[B]at y;clear B;by_cases I:v.size<=256
   ·have E:(v.size:Int)<=256:=oMg
    cases g with
    | false =>
      go_enter Tryz.func25,Tryz.ntmps25
      go_wp2_with (go_at_call 62;refine(y.out _ _ (zbk:Mod _ w0 _)).mono ?_;rintro e w1 ⟨rfl,z⟩)
      go_ret
      exact⟨by simp[I],Mod.sub S (m:=z)⟩
    | true =>
      go_enter Tryz.func25,Tryz.ntmps25
      go_wp2_with (go_at_call 62;refine(y.out _ _ (zbk:Mod _ w0 _)).mono ?_;rintro e w1 ⟨rfl,z⟩)
      go_ret
      exact⟨by simp[I],Mod.sub S (m:=z)⟩
   ·have E:¬(v.size:Int)<=256:=oMg
    go_enter Tryz.func25,Tryz.ntmps25
    go_wp2_with (go_at_call 62;refine(y.out _ _ (zbk:Mod _ w0 _)).mono ?_;rintro e w1 ⟨rfl,z⟩)
    go_ret
    exact⟨by simp,Mod.sub S (m:=z)⟩
structure jS {α:Type}(f:α->List Value)(k:Nat)(S:ba)(A:Option Addr)(n:Nat)(l:List α):Prop where
 len:l.length=n
 cells:bk S A (n*k) (l.flatMap f)
section
variable {α:Type}{f:α->List Value}{k:Nat}{S:ba}{A:Option Addr}{n:Nat}{l:List α}
theorem jS.lift {S':ba}(s:Sub S' S)(r:jS f k S A n l):jS f k S' A n l:=⟨r.len,ct s r.cells⟩
theorem zn (y:∀x,(f x).length=k):∀(l:List α)(i j:Nat)(v:Value)(h:i<l.length),(f l[i])[j]?=some v->(l.flatMap f)[i*k+j]?=some v
 | [],i,_,_,h,_=>by simp at h
 | x::l,0,j,v,_,hv=>by
   simp only[List.getElem_cons_zero]at hv;rw[Zp,Xj,ZM,Yz (Yd.1 hv).1];exact hv
 | x::l,i+1,j,v,h,hv=>by
   rw[Zp,Z7 (by rw[y,XT];omega),y,show (i+1)*k+j-k=i*k+j by rw[XT];omega];exact zn y l i j v (by simpa using h) (by simpa using hv)
theorem jS.at_ {b o:Nat}(r:jS f k S (some ⟨b,o,none⟩) n l)(y:∀x,(f x).length=k)(B:0<k){i:Nat}(z:i<l.length){j:Nat}{v:Value}(E:(f l[i])[j]?=some v):bw S b (o+i*k+j) v:=by
 have hp:0<n*k:=zat (by have:=r.len;omega) B;rw[YB];exact eL r.cells hp _ (zn y l i j v z E)
theorem jS.some_ {w w0:World}(r:jS f k S A n l)(m:Mod w w0 S)(B:0<k)(hn:0<n):∃b o,A=some ⟨b,o,none⟩:=by
 obtain⟨ad,z,y,_⟩:=cP m r.cells (zat hn B);obtain⟨b,o,E⟩:=ad;simp only at y;subst y;exact⟨b,o,z⟩
theorem zo (y:∀x,(f x).length=k):∀(l:List α)(i:Nat),(l.flatMap f).drop (i*k)=(l.drop i).flatMap f
 | [],i=>by simp
 | x::l,0=>by simp
 | x::l,i+1=>by
   rw[Zp,ZY,<-zo y l i,XT,XR,<-zbl,X0 (y x)]
theorem zp (y:∀x,(f x).length=k):∀(l:List α)(i:Nat),(l.flatMap f).take (i*k)=(l.take i).flatMap f
 | [],i=>by simp
 | x::l,0=>by simp
 | x::l,i+1=>by
   rw[Zp,List.take_succ_cons,Zp,<-zp y l i,zaq,y,Zn (by rw[y,XT];omega),XT,XG]
theorem jS.part (r:jS f k S A n l)(y:∀x,(f x).length=k)(i t:Nat)(h:i+t<=n):jS f k S (A.map (·.add (i*k))) t ((l.drop i).take t):=by
 refine⟨by have:=r.len;simp;omega,?_⟩;have z:=r.cells.part (i*k) (t*k) (by rw[<-zbi];exact Xw _ h)
 rwa [zo y,zp y]at z
theorem jS.jE (A:Option Addr):jS f k S A 0 []:=⟨rfl,by rw[Xj];exact bk.jE A⟩
theorem jS.rest (r:jS f k S A n l)(z:∀x,(f x).length=k){c i:Nat}(h:i<=n)(B:n<=c):jS f k S (if c=i then A else A.map (·.add (i*k))) (n-i) (l.drop i):=by
 have E:=r.len;by_cases e:c=i
 ·rw[if_pos e,show n-i=0 by omega,Yj oMg]
  exact jS.jE _
 ·rw[if_neg e]
  have y:=r.part z i (n-i) oMg
  rwa [Zn (by rw[ZF];omega)]at y
end
abbrev ia:=jS lc.cells 3
theorem yo (x:lc):x.cells.length=3:=rfl
theorem Lh {S:ba}{b o n:Nat}{l:List lc}(r:ia S (some ⟨b,o,none⟩) n l){i:Nat}(y:i<l.length):bw S b (o+i*3) (.string l[i].key)/\bw S b (o+i*3+1) (.string l[i].value)/\bw S b (o+i*3+2) (.bool l[i].gone) :=
 ⟨r.at_ yo (by decide) (j:=0) y rfl,r.at_ yo (by decide) (j:=1) y rfl,r.at_ yo (by decide) (j:=2) y rfl⟩
def rj {α:Type}(p:α->Bool)(l:List α):Int:=match l.findIdx? p with | some i=>(i:Int) | none => -1
theorem JD {α:Type}{p:α->Bool}{l:List α}{i:Nat}(y:i<l.length)(h:∀j (_:j<l.length),j<i->p l[j]=false)(hp:p l[i]=true):rj p l=(i:Int):=by
 unfold rj
 have:l.findIdx? p=some i:=by
  rw[Zk];exact⟨y,hp,fun j z=>by simpa using h j oMg z⟩
 rw[this]
theorem Ed {α:Type}{p:α->Bool}{l:List α}(h:∀j (_:j<l.length),p l[j]=false):rj p l = -1:=by
 unfold rj
 have:l.findIdx? p=none:=by
  rw[ZV];intro x z;obtain⟨j,y,rfl⟩:=ZI.1 z;exact h j y
 rw[this]
theorem Gp {α:Type}(p:α->Bool)(l:List α):decide (0<=rj p l)=l.any p:=by
 unfold rj
 cases h:l.findIdx? p with
 | none =>
   rw[ZV]at h;have:l.any p=false:=Y3.2 fun x z=>by simpa using h x z
   rw[this];rfl
 | some i =>
   rw[Zk]at h;obtain⟨y,hp,_⟩:=h;have:l.any p=true:=Yb.2 ⟨_,Zq y,hp⟩;rw[this];exact decide_eq_true (Int.natCast_nonneg i)
theorem Eb (O:Nat)(lb:Array Value)(p:lc->Bool)(A:Option Addr)(n c:Nat)(l:List lc)(w w0:World)(S:ba)(m:Mod w w0 S)(r:ia S A n l)(hn:n<=1000000000)(ef:∀args w,(callFunc O args).run Tryz.prog w=.ok (.enter O args) w)
 (Y:∀(x:lc)(u:World),Mod u w0 S->Calls Tryz.prog O (#[.agg #[.string x.key,.string x.value,.bool x.gone]]++lb) u fun e w'=>e=.returned (.bool (p x))/\Mod w' w0 S) :
 Calls Tryz.prog 61 #[.slice A n c,.func (.func O) #[] lb] w fun e w'=>e=.returned (.int .i64 (rj p l))/\Mod w' w0 S:=by
 have R:=zbj r;have Y:=zbj Y;obtain⟨z,hz⟩:∃z,rj p l=z:=⟨_,rfl⟩;rw[hz];have Hz:=zbj hz;clear r hz;go_enter Tryz.func61,Tryz.ntmps61
 go_wp2_with fail
 go_loopg [8] n (fun gk iv wr=>∃i:Nat,i<=n/\gk=n-i/\iv=.int .i64 (i:Int)/\Hid (∀j (_:j<l.length),j<i->p l[j]=false)/\Mod wr w0 S)
 case atStart=>exact⟨0,Zv _,rfl,rfl,(fun j _ U=>by omega),m⟩
 case round =>
  obtain⟨i,hi,aa,rfl,B,V⟩:=hrel;by_cases M:i<n
  ·have Z:(i:Int)<(n:Int):=oMg
   have K:i<l.length:=by rw[R.out.len];exact M
   obtain⟨b,o,rfl⟩:=R.out.some_ V (by decide) oMg;obtain⟨c0,c1,c2⟩:=Lh R.out K;have I:=zbj (Y.out l[i])
   cases y:p l[i]with
   | false =>
     rw[y]at I
     have J:Hid (∀j (_:j<l.length),j<i+1->p l[j]=false):=fun j U ae=>by
      by_cases e:j=i
      ·subst e;exact y
      ·exact B.out j U oMg
     clear y;generalize l[i]=x at *;go_wp2_with (refine(I.out _ V).mono ?_;rintro e w1 ⟨rfl,m2⟩)
     go_roundg (n-(i+1))
     case measure=>omega
     case rel=>exact⟨i+1,M,rfl,by go_num,J,m2⟩
   | true =>
     rw[y]at I;have E:Hid (z=(i:Int)):=by show _=_;rw[<-Hz.out];exact JD K B.out y
     clear y;generalize l[i]=x at *;go_wp2_with (refine(I.out _ V).mono ?_;rintro e w1 ⟨rfl,m2⟩)
     (try rw[Exit.noGoto_ret])
     go_ret
     exact⟨by rw[E.out];rfl,m2⟩
  ·have Z:¬(i:Int)<(n:Int):=oMg
   have E:Hid (z = -1):=by
    show _=_;rw[<-Hz.out];exact Ed fun j U=>B.out j U (by have:=R.out.len;omega)
   go_wp2_with fail
   go_ret
   exact⟨by rw[E.out];rfl,V⟩
theorem gJ (B:Nat)(lb:Array Value)(p:lc->Bool)(A:Option Addr)(n c:Nat)(l:List lc)(w w0:World)(S:ba)(m:Mod w w0 S)(r:ia S A n l)(hn:n<=1000000000)(J:∀args w,(callFunc B args).run Tryz.prog w=.ok (.enter B args) w)
 (I:∀(x:lc)(u:World),Mod u w0 S->Calls Tryz.prog B (#[.agg #[.string x.key,.string x.value,.bool x.gone]]++lb) u fun e E=>e=.returned (.bool (p x))/\Mod E w0 S) :
 Calls Tryz.prog 23 #[.slice A n c,.func (.func B) #[] lb] w fun e E=>e=.returned (.bool (l.any p))/\Mod E w0 S:=by
 have K:=zbj (Eb B lb p A n c l w w0 S m r hn J I);have y:=zbj (Gp p l);clear I J;generalize rj p l=z at *;go_enter Tryz.func23,Tryz.ntmps23
 go_wp2_with (go_at_call 61;refine K.out.mono ?_;rintro e w1 ⟨rfl,M⟩)
 go_ret
 exact⟨by rw[<-y.out];rfl,M⟩
theorem Bj (y:Nat)(c x:lc)(w w0:World)(S:ba)(m:Mod w w0 S)(h:jq S y (.cells #[.string c.key,.string c.value,.bool c.gone] 53 (0,0))):Calls Tryz.prog 63 #[.agg #[.string x.key,.string x.value,.bool x.gone],ap y] w fun e B=>e=.returned (.bool (decide (x.key=c.key)))/\Mod B w0 S:=by
 have z:(x.key.toList==c.key.toList)=decide (x.key=c.key):=by
  by_cases e:x.key=c.key
  ·rw[e];simp
  ·rw[decide_eq_false e];exact beq_eq_false_iff_ne.2 fun h=>e (uB h)
 go_enter Tryz.func63,Tryz.ntmps63
 go_wp2_with fail
 go_ret
 exact⟨by first | rfl | simp[z],Mod.sub S (m:=Mod.alloc (m:=m) _)⟩
theorem CZ (A:Option Addr)(n c seq:Nat)(l:List lc)(_hseq:seq<18446744073709551616)(w w0:World)(S:ba)(m:Mod w w0 S)(r:ia S A n l)(hn:n<=1000000)(hc:n<=c) :
 Calls Tryz.prog 26 #[.slice A n c,.int .u64 (seq:Int)] w fun e w'=>∃B c',e=.returned (.slice B (dp seq l).length c')/\Mod w' w0 (ar 71 4 (.slice B (dp seq l).length c') (dp seq l).length ((dp seq l).flatMap ao.cells)*S):=by
 have R:=zbj r;have au:Hid (∀i,i<=n->ia S (if c=i then A else A.map (·.add (i*3))) (n-i) (l.drop i)):=fun i hi=>r.rest yo hi hc;have ae:l.length=n:=r.len;have ag:=zbj ae;obtain⟨Z,hZ⟩:∃Z,dp seq l=Z:=⟨_,rfl⟩;have HZ:=zbj hZ;rw[hZ];have az:Z.length<=n:=by rw[<-hZ,<-ae];exact nA seq l
 clear r ae hZ;go_enter Tryz.func26,Tryz.ntmps26
 go_wp2_with fail
 go_loopg [4,10] n (fun gk v4 ay wr=>∃(i no Y:Nat)(U:Option Addr)(out:List ao),i<=n/\gk=n-i/\v4=.slice U no Y/\ay=.int .i64 (i:Int)/\Hid (out.length=no)/\no<=i/\Hid (Z=out++dp seq (l.drop i))/\Mod wr w0 (ar 71 4 (.slice U no Y) no (out.flatMap ao.cells)*S))
 case atStart=>exact⟨0,0,0,none,[],Zv _,rfl,rfl,rfl,rfl,Zm _,by show _=_;rw[<-HZ.out];rfl,ey m⟩
 case round =>
  obtain⟨i,no,Y,U,out,hi,aj,rfl,rfl,K,ak,J,m1⟩:=hrel;by_cases I:i<n
  ·have av:(i:Int)<(n:Int):=oMg
   have aB:(i:Int)+1<=(n:Int):=oMg
   have aD:(n:Int)<=(c:Int):=oMg
   have aa:i<l.length:=by rw[ag.out];exact I
   obtain⟨b,o,rfl⟩:=(R.out.lift (S':=ar 71 4 (.slice U no Y) no (out.flatMap ao.cells)*S) zbk).some_ m1 (by decide) oMg;obtain⟨c0,c1,c2⟩:=Lh R.out aa;have rI:=au.out (i+1) oMg
   have e2:(some (⟨b,o,none⟩:Addr)).map (·.add ((i+1)*3))=some ⟨b,o+(i+1)*3,none⟩:=by
    show some ((⟨b,o,none⟩:Addr).add ((i+1)*3))=_;rw[jl _ _ rfl]
   rw[e2]at rI;have ai:l.drop i=l[i]::l.drop (i+1):=Ya aa;generalize l[i]=x at *
   have V:Hid (∀(g:Nat)(u:World)(G:ba),Sub G S->jq G g (.cells #[.string x.key,.string x.value,.bool x.gone] 53 (0,0))->Mod u w0 G->Calls Tryz.prog 23 #[.slice (if c=i+1 then some ⟨b,o,none⟩else some ⟨b,o+(i+1)*3,none⟩) (n-(i+1)) (c-(i+1)),.func (.func 63) #[] #[ap g]] u fun e w'=>e=.returned (.bool ((l.drop (i+1)).any fun d=>decide (d.key=x.key)))/\Mod w' w0 G):=fun g u G hG hh mu =>
    gJ 63 #[ap g] (fun d=>decide (d.key=x.key)) _ _ _ _ u w0 G mu (rI.lift hG) oMg (enters_of Tryz.func63 kRf rfl) fun y v mv=>Bj g x y v w0 G mv hh
   have O:dp seq (l.drop i)=if (l.drop (i+1)).any (fun d=>decide (d.key=x.key))then dp seq (l.drop (i+1))else ⟨x.key,seq,x.gone,x.value⟩::dp seq (l.drop (i+1)):=by rw[ai];rfl
   have M:=zbj O;clear O ai rI e2 aa;rcases Classical.em (c=i+1)with rfl | hci
   all_goals
    (try (rw[if_pos rfl]at V;have ax:n=i+1:=oMg))
    (try subst ax)
    (try simp only[zae]at V)
    (try rw[if_neg hci]at V)
    cases z:(l.drop (i+1)).any fun d=>decide (d.key=x.key)with
    | true =>
      rw[z]at V;have E:Hid (Z=out++dp seq (l.drop (i+1))):=by show _=_;rw[J.out,M.out,if_pos z]
      clear z;go_wp2_with (go_at_call 23;refine(V.out _ _ _ (Sub.right _ _ _ (s:=Sub.right _ _ _)) zbk (Mod.alloc (m:=m1) _)).mono ?_;rintro e w2 ⟨rfl,m2⟩)
      first | go_roundg (n-(i+1)) | go_roundg 0
      case measure=>rw[aj];first | exact Nat.sub_lt_sub_left I (zbq i) | exact Nat.sub_pos_of_lt I
      case rel=>exact⟨i+1,no,Y,U,out,I,by first | rfl | simp,rfl,by go_num,K.out,zac ak,E.out,Mod.keep m2⟩
    | false =>
      rw[z]at V;have E:Hid (Z=(out++[⟨x.key,seq,x.gone,x.value⟩])++dp seq (l.drop (i+1))):=by show _=_;rw[J.out,M.out,z,if_neg (by decide)];simp
      clear z
      go_wp2_with first
       | (go_at_call 23;refine(V.out _ _ _ (Sub.right _ _ _ (s:=Sub.right _ _ _)) zbk (Mod.alloc (m:=m1) _)).mono ?_;rintro e w2 ⟨rfl,m2⟩)
       | (at_builtin;refine i9 (t:=59) (k:=1) (c:=1) (A:=⟨w2.heap.size,0,none⟩) (news:=[.string x.key,.int .u64 (seq:Int),.bool x.gone,.string x.value]) rfl rfl (Mod.pull (m:=Mod.alloc (m:=m2) _) (ar 71 4 (.slice U no Y) no (out.flatMap ao.cells))) rfl rfl (ce rfl rfl) (by decide) (by simp[Value.oneCell']) (by unfold maxLen;omega) oMg ?_;intro A2 c2 w4 m4)
      first | go_roundg (n-(i+1)) | go_roundg 0
      case measure=>rw[aj];first | exact Nat.sub_lt_sub_left I (zbq i) | exact Nat.sub_pos_of_lt I
      case rel=>exact⟨i+1,no+1,c2,A2,out++[(ao.mk x.key seq x.gone x.value)],I,by first | rfl | simp,rfl,by go_num,by show _=_;rw[Ze,K.out];rfl,Nat.succ_le_succ ak,E,by
       rw[Z4,show List.flatMap ao.cells [(⟨x.key,seq,x.gone,x.value⟩:ao)]=[.string x.key,.int .u64 (seq:Int),.bool x.gone,.string x.value]from rfl]
       exact Mod.keep m4⟩
  ·have av:¬(i:Int)<(n:Int):=oMg
   have ah:Z=out:=by
    have h:=J.out;rw[Yj (by rw[ag.out];omega)]at h;simpa [dp]using h
   have af:=zbj ah;clear ah;go_wp2_with fail
   go_ret
   exact⟨U,Y,by rw[af.out,K.out];rfl,by rw[af.out,K.out];exact m1⟩
open Go.RowKit Go.Sl
attribute [local go_sem] ab bj bh bd
theorem Fi (p:Addr)(w:World):CallsD Tryz.prog 67 #[.pointer (some p)] .returning w fun e B E=>e=.returned (.tuple #[])/\B=.returning/\E=w:=by
 refine callsD_of_wpS Tryz.func67 rfl fun y cs z=>?_;apply wpS_seq;apply wpS_region;simp[wpOpsS,go_sem,recoverD,z,Tryz.ntmps67,Exit.thenS];apply wpS_seq;apply wpS_region;simp[wpOpsS,go_sem,Exit.thenS];refine wpS_cond (t:=false) (by simp[Act.eval,Array.replicate]) ?_;simp only[YH,if_false];refine wpS_of_wp ?_;go_wp2
 cases y
 simp_all [bodyPostS,results,Tryz.results67]
theorem r8 {α:Type}(y:Nat)(lb:Array Value)(I:α->Prop)(S':α->ba)(w w0:World)(S:ba)(m:Mod w w0 S)(U:∀args w,(callFunc y args).run Tryz.prog w=.ok (.enter y args) w)
 (B:∀(G:ba)(u:World),Mod u w0 (S*G)->Calls Tryz.prog y lb u fun e E=>e=.returned (.tuple #[])/\∃a,I a/\Mod E w0 (S' a*G)) :
 Calls Tryz.prog 28 #[.func (.func y) #[] lb] w fun e E=>e=.returned (.int .i64 0)/\∃a,I a/\Mod E w0 (S' a):=by
 have B:=zbj B;have K:∀(y:Fn)(first cap:Array Value)(w:World),(Instr.makeFunc y first cap).run Tryz.prog w=.ok (.func y first cap) w:=fun _ _ _ _=>rfl;go_enter_defers Tryz.func28,Tryz.ntmps28
 go_wp2_with (refine(B.out _ _ (Mod.to (m:=Mod.alloc (m:=m) _) (ii _ _))).mono ?_;rintro e w1 ⟨rfl,a,J,V⟩)
 refine leaves_cons (f:=67) (args:=#[.pointer (some ⟨w.heap.size,0,none⟩)]) (by simp) (by simp[go_sem]) ?_;refine(Fi ⟨w.heap.size,0,none⟩ _).mono ?_;rintro e Y O ⟨rfl,rfl,rfl⟩;have M:Mod (w1.setCell ⟨w.heap.size,0,none⟩ (.int .i64 0)) w0 _:=zbk;have z:(w1.setCell ⟨w.heap.size,0,none⟩ (.int .i64 0)).cell? ⟨w.heap.size,0,none⟩=some (.int .i64 0):=Za;simp[Leaves,settle,results,Tryz.f28,go_sem,z];exact⟨a,J,Mod.keep M⟩
abbrev jT (e p:Nat)(y z B E I J:Value):ba:=aE e (.cells #[ap p,y,z,B,E,I,J] 66 (0,0))
structure pY (D:aq)(num:Nat)(l:List ao):Prop where
 ok:fV l
 len:l.length<=4096
 size:(cq l).length<=1048576
 ex:∃g k,br D.now (cY num)=some g/\cw D.files g=some ⟨cq l,k⟩
theorem Ae (e p:Nat)(x1 x2 x3 x4 x5 x6:Value)(D:aq)(f:bi)(V:f.num<4294967296)(l:List ao)(Y:pY D f.num l)(w w0:World)(F:ba)(m:Mod w w0 (bv p D*(jT e p x1 x2 x3 x4 x5 x6*F)))(tab:fX F) :
 Calls Tryz.prog 85 #[ap e,.agg #[.int .u32 (f.num:Int),.int .i64 f.level,.string f.least,.string f.most]] w fun en w'=>∃B c',en=.returned (.slice B l.length c')/\l.length<=c'/\Mod w' w0 (ar 71 4 (.slice B l.length c') l.length (l.flatMap ao.cells)*(bv p D*(jT e p x1 x2 x3 x4 x5 x6*F))):=by
 obtain⟨g,k,h1,h2⟩:=Y.ex;have hs:=uo V;have HN:=zbj (fun(u:World)(G:ba)(hG:Sub G F)(O:Mod u w0 G)=>lQ f.num V u w0 G O (tab.lift hG));have HS:=zbj (fun(u:World)(G:ba)(O:Mod u w0 (bv p D*G))=>wU p D (cY f.num) g ⟨cq l,k⟩ u w0 _ G O ⟨rfl⟩ hs (sB V) h1 h2);obtain⟨z,E⟩:∃z,(cq l).length=z:=⟨_,rfl⟩;have au:z<=1048576:=by rw[<-E];exact Y.size
 have Z:0<z:=by rw[<-E];unfold cq;simp[jM];omega
 have HR:Hid (∀(u:World)(G:ba),Mod u w0 (bv p D*G)->Calls Tryz.prog 106 #[ap p,.string (cY f.num),.int .i64 0,.int .i64 (z:Int)] u fun e w'=>∃A' c',e=.returned (.tuple #[.slice A' z c',.int .i64 0])/\Mod w' w0 (ar 5 1 (.slice A' z c') z (b7 (cq l))*(bv p D*G))):=fun u G O=>by
  have h:=II p D (cY f.num) u w0 _ G O ⟨rfl⟩ hs 0 z g ⟨cq l,k⟩ (sB V) h1 h2 (by show 0+z<=(cq l).length;omega);simp only[Z6]at h;rw[Zn oMg]at h;exact h
 have HA:Hid (∀(b o c:Nat)(u:World)(G:ba),z<=c->Mod u w0 G->bk G (some ⟨b,o,none⟩) z (b7 (cq l))->Calls Tryz.prog 130 #[.slice (some ⟨b,o,none⟩) z c] u fun e w'=>∃A' c',e=.returned (.tuple #[.slice A' l.length c',.int .i64 0])/\l.length<=c'/\Mod w' w0 (ar 71 4 (.slice A' l.length c') l.length (l.flatMap ao.cells)*G)):=fun b o c u G hc O ru=>Ho b o z c l Y.ok Y.len E oMg hc u w0 G O ru;have I:((⟨cq l,k⟩:dr).bytes.length:Int)=(z:Int):=congrArg (fun x:Nat=>(x:Int)) E;rw[I]at HS;obtain⟨nm,aa⟩:∃nm,cY f.num=nm:=⟨_,rfl⟩;rw[aa]at HS HR HN;clear aa I h1 h2 hs Y E tab;obtain⟨fn,J,fl,fm⟩:=f;simp only at V HN;go_enter Tryz.func85,Tryz.ntmps85
 go_wp2_with fail
 obtain⟨gf,M⟩:∃gf,w.heap.size=gf:=⟨_,rfl⟩;have m1:Mod (w.alloc (.cells #[.int .u32 (fn:Int),.int .i64 J,.string fl,.string fm] 44)) w0 (bv p D*(aE gf (.cells #[.int .u32 (fn:Int),.int .i64 J,.string fl,.string fm] 44 (0,0))*(jT e p x1 x2 x3 x4 x5 x6*F))):=Mod.to (m:=Mod.alloc (m:=m) (hn:=⟨M⟩) _) (by ac_rfl);rw[M];generalize w.alloc (.cells #[.int .u32 (fn:Int),.int .i64 J,.string fl,.string fm] 44)=w1 at *;clear M;have:=jO.some m1;refine dy m1 kRf kRf ?_
 repeat (go_big_quiet_step (first | (go_at_call 89;refine cW (HN.out _ _ zbk ?_);exact zbk) | (go_at_call 47;refine cW (HS.out _ _ ?_);exact zbk)))
 refine wpQuiet_nil ?_;rintro w3 ⟨s,rfl⟩;have m3:=s.mod;clear this m1;generalize s.world=w3 at *;go_wp2_with (go_at_call 34;refine(g4 _ w0 _ m3).mono ?_;rintro e w4 ⟨rfl,m4⟩;refine Hid.out ?_)
 refine zbj ?_;go_wp2_with fail
 refine wp_region_held_drew (S:=fun u=>u.cell? ⟨e,0,none⟩=some (ap p)/\u.cell? ⟨gf,0,none⟩=some (.int .u32 (fn:Int))) kRf ⟨Za,Za⟩ (fun y=>?_);simp only[Zl,List.length_cons,List.length_nil,Nat.reduceAdd];obtain⟨W4,hW⟩:∃W4,W4=w4.drew:=⟨_,rfl⟩;have mW:Mod W4 w0 _:=hW▸Mod.drew (m:=m4);rw[<-hW]at y ⊢;clear hW m4 m3;refine Tk.go [(0,some 23),(1,some 24),(2,some 25),(3,some 26),(4,some 27),(5,some 28),(7,some 30)] ?_
 repeat (
  refine Tk.gS (v:=?_) rfl (Or.inl ⟨by rfl,?_⟩) y ?_ (fun _ _ _ h=>h);rotate_left 1
  ·(intro u hu;(try dsimp only at hu);obtain⟨aj,ak⟩:=hu;go_simp;try with_reducible rfl)
  simp only[Act.put,Zb,Zc,Zd])
 refine Tk.stop (g7 6 (some 29) rfl rfl rfl fun K U=>?_);go_simp
 refine(HN.out _ _ zbk mW).mono ?_;rintro e' w5 ⟨rfl,m5⟩;refine U.out (.string nm) _ ⟨Za,Za⟩ (fun y=>?_);clear U K;simp only[Act.put,Zb,Zc,Zd];refine g7 8 (some 31) rfl rfl rfl fun K U=>?_;go_simp
 refine(HR.out _ _ m5).mono ?_;rintro e' w6 ⟨A6,c6,rfl,m6⟩;refine U.out (.tuple #[.slice A6 z c6,.int .i64 0]) _ ⟨Za,Za⟩ (fun y=>?_);clear U K;simp only[Act.put,Zb,Zc,Zd];refine Tk.go [(9,some 22),(10,some 32),(11,some 33),(12,some 7),(13,some 6)] ?_
 repeat (
  refine Tk.gS (v:=?_) rfl (Or.inl ⟨by rfl,?_⟩) y ?_ (fun _ _ _ h=>h);rotate_left 1
  ·(intro u hu;(try dsimp only at hu);obtain⟨aj,ak⟩:=hu;go_simp;try with_reducible rfl)
  simp only[Act.put,Zb,Zc,Zd])
 refine Tk.stop (mH ?_);clear y mW m5;obtain⟨av,ax,e6,ah⟩:=nP m6;injection e6 with af _ ag;subst af ag;obtain⟨ad,rfl,ae,_⟩:=cP m6 (bk.left _ _ _ _ _ (r:=bk.row _ _ _ _ _)) Z;obtain⟨b,o,sp⟩:=ad;simp only at ae;subst ae;go_wp2_with (go_at_call 34;refine(g4 _ w0 _ m6).mono ?_;rintro e w7 ⟨rfl,m7⟩;refine Hid.out ?_)
 refine zbj ?_;go_wp2_with (go_at_call 130;refine(HA.out b o c6 _ _ ah m7 zbk).mono ?_;rintro e w8 ⟨A8,c8,rfl,ai,m8⟩;refine Hid.out ?_)
 refine zbj ?_;go_wp2_with (go_at_call 34;refine(g4 _ w0 _ m8).mono ?_;rintro e w9 ⟨rfl,m9⟩;refine Hid.out ?_)
 refine zbj ?_;go_wp2_with fail
 go_ret
 exact⟨A8,c8,rfl,ai,Mod.keep m9⟩
end Go.Proofs.YtdfppjcaelghhaaGreatDoor
