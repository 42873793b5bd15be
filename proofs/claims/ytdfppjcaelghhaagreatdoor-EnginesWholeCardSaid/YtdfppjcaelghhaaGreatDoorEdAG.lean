/- Plain lemmas and contracts; the conditions are in each. -/
import Derived.Deep.DeepAppendRoom
import Derived.Laws.ResultCell
import Derived.Laws.Rows
import Derived.Test.YtdfppjcaelghhaaGreatDoorPartsG
set_option maxHeartbeats 16000000
set_option maxRecDepth 100000
namespace Go.Sl
open Go
class sl (S T:ba):Prop where
 keep:∀x,(S*OY).says x->(T*OY).says x
instance (priority:=3000) sl.refl (S:ba):sl S S:=⟨fun _ h=>h⟩
instance (priority:=2000) sl.mul (S A B R:ba) [p:pG S A R] [k:sl R B]:sl S (A*B):=⟨fun x h=>by
 rw[p.eq,bo]at h;obtain⟨a,b,y,z,E,I⟩:=h;rw[bo]
 exact⟨a,b,y,z,E,k.keep b I⟩⟩
instance (priority:=2500) sl.Pk (S B:ba) [k:sl S B]:sl S (sC*B):=⟨fun x h=>by rw[b9];exact k.keep x h⟩
instance (priority:=1000) sl.last (S A R:ba) [p:pG S A R]:sl S A:=⟨fun x h=>by
 rw[p.eq,bo]at h;obtain⟨a,b,y,z,B,_⟩:=h
 exact⟨a,b,y,z,B,trivial⟩⟩
theorem Mod.keep {w w0:World}{S T:ba}(m:Mod w w0 S) [k:sl S T]:Mod w w0 T:=⟨m.os,m.tape,m.output,k.keep _ m.says⟩
end Go.Sl
namespace Go.Proofs.YtdfppjcaelghhaaGreatDoor
open Go.RowKit Go.Sl
theorem EP {w w0:World}{e:TypeId}{g n c:Nat}{z:Array Value}{xs:List Value}{F:ba}(m:Mod w w0 (aE g (.cells z e (0,0))*F))(B:n<=c)(E:c<=maxLen)(M:z.size=c)(O:xs.length=n)(I:z.toList.take n=xs):Mod w w0 (ar e 1 (.slice (some ⟨g,0,none⟩) n c) n xs*F):=by
 refine Mod.conv (S:=aE g (.cells z e (0,0))*F) (m:=m) fun x J=>lF (A:=aE g (.cells z e (0,0))) (fun y K=>?_) J;exact⟨oMg,.inr ⟨g,c,z,rfl,B,E,oMg,by rw[zas];exact I,K⟩⟩
end Go.Proofs.YtdfppjcaelghhaaGreatDoor
namespace Go.Sl
open Go Go.RowKit
theorem py {w w0:World}{e size:Nat}{A:Option Addr}{n c:Nat}{xs:List Value}{F:ba}(m:Mod w w0 (ar e size (.slice A n c) n xs*F))(hn:0<n):∃g y,A=some ⟨g,0,none⟩/\n<=c/\c<=maxLen/\xs.length=n*size/\y.size=c*size/\y.toList.take (n*size)=xs/\Mod w w0 (aE g (.cells y e (0,0))*F):=by
 have h:=m.says;rw[bo]at h;obtain⟨a,b,E,I,⟨M,J⟩,K⟩:=h;rcases J with⟨_,h0,_⟩ | ⟨g,cap,y,O,U,V,Y,Z,rfl⟩
 ·omega
 ·injection O with z e2 B
  subst z B;exact⟨g,y,rfl,U,V,M,Y,Z,m.os,m.tape,m.output,by rw[bo];exact⟨_,b,E,I,rfl,K⟩⟩
theorem me {w w0:World}{e size:Nat}{g n c:Nat}{z:Array Value}{xs:List Value}{F:ba}(m:Mod w w0 (aE g (.cells z e (0,0))*F))(B:n<=c)(E:c<=maxLen)(I:z.size=c*size)(J:xs.length=n*size)(K:z.toList.take (n*size)=xs):Mod w w0 (ar e size (.slice (some ⟨g,0,none⟩) n c) n xs*F):=by
 refine Mod.conv (S:=aE g (.cells z e (0,0))*F) (m:=m) fun x M=>lF (A:=aE g (.cells z e (0,0))) (fun y O=>?_) M;exact⟨J,.inr ⟨g,c,z,rfl,B,E,I,K,O⟩⟩
theorem nP {w w0:World}{e:TypeId}{size n:Nat}{v:Value}{xs:List Value}{F:ba}(m:Mod w w0 (ar e size v n xs*F)):∃A c,v=.slice A n c/\n<=c:=by
 rcases (fW m).2 with⟨y,z⟩ | ⟨g,cap,B,y,_,_,z,_⟩
 ·exact⟨none,0,by rw[y,z],oMg⟩
 ·exact⟨_,_,y,z⟩
theorem se {P:Program}{w w0:World}{F:ba}{U:Array Oper}{rest:List Oper}{o:Oper}{a:Act}{Q:Exit->Act->World->Prop}{s x:Operand}{t e size bytes:Nat} [T:yH P t e size bytes](K:o.guard=none)
 (ho:o.op=.call {callee:=.builtin .append,args:=#[s,x],argTypes:=#[t,t]}) {v:Value} {n:Nat} {xs:List Value} (m:Mod w w0 (ar e size v n xs*F)) (hs:a.eval s=v)
 {A:Option Addr} {k c:Nat} {news:List Value} (hx:a.eval x=.slice A k c) (r:bk F A (k*size) news) (y:∀u∈news,u.oneCell'=true) (aa:n+k<=maxLen) (B:(n+k)*bytes<=140737488355328)
 (h:∀A' c' w',Mod w' w0 (ar e size (.slice A' (n+k) c') (n+k) (xs++news)*F)->wpList P U Q rest (a.put o.dst (.slice A' (n+k) c')) w'):wpList P U Q (o::rest) a w:=by
 rcases YD k with V | V
 ·subst V
  have rS:bk (ar e size v n xs*F) A (0*size) news:=zbk;have M:=fp m rS;have I:news=[]:=Zo (by rw[M,Xj]);subst I;obtain⟨i,z,hi,hz,J,ae,ah,h0⟩:=T.get;have E:=fW m
  have ag:∃A' c',v=.slice A' n c':=by
   rcases E.2 with⟨y,Z⟩ | ⟨g,cap,Y,y,_⟩
   ·exact⟨none,0,by rw[y,Z]⟩
   ·exact⟨_,_,y⟩
  obtain⟨A',c',rfl⟩:=ag
  have O:(Builtin.append_ #[t,t] o.type #[.slice A' n c',.slice A 0 c]).run P w=.ok (.slice A' n c') w:=by
   rcases E.2 with⟨y,rfl⟩ | ⟨g,cap,Y,y,_,hh,af,_⟩
   ·injection y with y Z h3
    subst y h3;cases A <;> simp[Builtin.append_,run_underlying T.ht,sizeOf,typeInfo,hi,Builtin.lenOf,Builtin.firstCells,loadCells,loadCellsFrom]
   ·injection y with y Z h3
    subst y h3;cases A <;> simp[Builtin.append_,run_underlying T.ht,sizeOf,typeInfo,hi,Builtin.lenOf,Builtin.firstCells,loadCells,loadCellsFrom,af,storeCells]
  refine wpList_plain K fun _ hK=>?_;unfold Oper.wp execOp;simp only[ho,resolve,invoke,builtin,Sem.run_bind,Sem.run_pure,Result.andThen_ok,Y0,Zy,Ye,hs,hx,O];exact hK _ _ (h A' c' w (by simpa using m))
 ·have rS:bk (ar e size v n xs*F) A (k*size) news:=zbk
  obtain⟨i,z,hi,hz,J,ae,ah,h0⟩:=T.get;obtain⟨ad,rfl,_,_⟩:=cP m rS (zat V h0);exact i9 K ho m hs hx r V y aa B h
def ca (n:Nat):List UInt8:=if n<128 then [UInt8.ofNat n]else UInt8.ofNat (n%128+128)::ca (n / 128)
termination_by n
decreasing_by omega
theorem nR {n:Nat}(h:n<128):ca n=[UInt8.ofNat n]:=by rw[ca,if_pos h]
theorem vZ {n:Nat}(h:¬n<128):ca n=UInt8.ofNat (n%128+128)::ca (n / 128):=by rw[ca,if_neg h]
theorem we (n:Nat):1<=(ca n).length:=by
 rw[ca];split <;> simp
theorem pE:∀(k n:Nat),n<128 ^ (k+1)->(ca n).length<=k+1
 | 0,n,h=>by rw[nR oMg];simp
 | k+1,n,h=>by
   by_cases hn:n<128
   ·rw[nR hn];simp
   ·rw[vZ hn]
    have:=pE k (n / 128) (by rw[Nat.pow_succ]at h;omega);simp only[List.length_cons];omega
theorem cN {n:Nat}(h:n<18446744073709551616):(ca n).length<=10:=pE 9 n oMg
end Go.Sl
namespace Go.Proofs.YtdfppjcaelghhaaGreatDoor
open Go.RowKit Go.Sl
attribute [local go_sem] ab bj bh bd CS
theorem EQ {w w0:World}{e size:Nat}{A:Option Addr}{n c:Nat}{xs:List Value}{F:ba}(m:Mod w w0 (ar e size (.slice A n c) n xs*F))(hn:0<n):∃g,A=some ⟨g,0,none⟩:=by
 obtain⟨g,y,h,_⟩:=py m hn;exact⟨g,h⟩
theorem Od (v:Nat):bits .or .u8 ((v:Int)%256) 128=((v%128+128:Nat):Int):=by
 have h:∀x:Fin 256,bits .or .u8 (x.val:Int) 128=((x.val%128+128:Nat):Int):=by decide +kernel
 have y:=h ⟨v%256,oMg⟩;simp only at y;have e:((v:Int)%256)=((v%256:Nat):Int):=oMg
 rw[e,y];omega
theorem zx (g:Nat)(A:Option Addr)(k c:Nat)(xs:List UInt8)(z:Int)(x:UInt8)(I:z=(x.toNat:Int))(w w0:World)(F:ba)(O:k<=1000000000)(m:Mod w w0 (aE g (.cells #[.slice A k c] 67 (0,0))*(ar 5 1 (.slice A k c) k (b7 xs)*F))) :
 Calls Tryz.prog 114 #[.int .u8 z,ap g] w fun e K=>e=.returned (.tuple #[])/\∃A' c',Mod K w0 (aE g (.cells #[.slice A' (k+1) c'] 67 (0,0))*(ar 5 1 (.slice A' (k+1) c') (k+1) (b7 (xs++[x]))*F)):=by
 subst I;go_enter Tryz.func114,Tryz.ntmps114
 go_wp2_with (at_builtin;refine cS (v:=.slice A k c) (A:=some ⟨w.heap.size,0,none⟩) (k:=1) (c:=1) (news:=b7 [x]) (r:=ce rfl rfl) rfl rfl zbk rfl rfl (io _) (by unfold maxLen;omega) oMg ?_;intro y B M J)
 rw[<-eC]at J;go_end0
 have E:Mod (M.setCell ⟨g,0,none⟩ (.slice y (k+1) B)) w0 _:=zbk;simp only[Zb,Zc]at E;exact⟨rfl,y,B,Mod.keep E⟩
theorem C2 (g:Nat)(n:Nat)(hn:n<18446744073709551616)(A:Option Addr)(k c:Nat)(xs:List UInt8)(w w0:World)(F:ba)(hk:k<=900000000)(m:Mod w w0 (aE g (.cells #[.slice A k c] 67 (0,0))*(ar 5 1 (.slice A k c) k (b7 xs)*F))) :
 Calls Tryz.prog 113 #[.int .u64 (n:Int),.func (.func 114) #[] #[ap g]] w fun e w'=>e=.returned (.tuple #[])/\∃A' c',Mod w' w0 (aE g (.cells #[.slice A' (k+(ca n).length) c'] 67 (0,0))*(ar 5 1 (.slice A' (k+(ca n).length) c') (k+(ca n).length) (b7 (xs++ca n))*F)):=by
 obtain⟨V,Y⟩:∃V,ca n=V:=⟨_,rfl⟩;have ag:V.length<=10:=by rw[<-Y];exact cN hn
 rw[Y];have HV:=zbj Y;clear Y;go_enter Tryz.func113,Tryz.ntmps113
 go_wp2_with fail
 go_loopg [0] n (fun gk v wr=>∃(q z J:Nat)(I:Option Addr)(B:List UInt8),gk=q/\v=.int .u64 (q:Int)/\q<=n/\k<=z/\Hid (V=B++ca q/\z=k+B.length)/\z<=k+10/\Mod wr w0 (aE g (.cells #[.slice I z J] 67 (0,0))*(ar 5 1 (.slice I z J) z (b7 (xs++B))*F)))
 case atStart=>exact⟨n,k,c,A,[],rfl,rfl,Zm _,Zm _,⟨HV.out.symm,rfl⟩,oMg,by rw[ZH];exact m⟩
 case round =>
  obtain⟨q,z,J,I,B,ah,rfl,hq,ai,E,af,m2⟩:=hrel;by_cases h:q<128
  ·have ae:¬(128:Int)<=(q:Int):=oMg
   have aa:V.length=B.length+1:=by rw[E.out.1,nR h];simp
   have U:Hid (V=B++[UInt8.ofNat q]/\z+1=k+V.length):=⟨by rw[E.out.1,nR h],by have:=E.out.2;omega⟩;have K:(q:Int)=((UInt8.ofNat q).toNat:Int):=by rw[UInt8.toNat_ofNat'];omega
   have E1:=zbj K;clear K aa;go_wp2_with (go_at_call 114;refine(zx g I z J (xs++B) _ (UInt8.ofNat q) E1.out _ w0 F oMg m2).mono ?_;rintro e w3 ⟨rfl,Z,c3,m3⟩)
   go_end0
   exact⟨rfl,Z,c3,by rw[<-U.out.2,U.out.1,<-Zr];exact m3⟩
  ·have ae:(128:Int)<=(q:Int):=oMg
   have O:=we (q / 128);have y:=E.out;rw[vZ h]at y;have hl:=congrArg List.length y.1;simp only[Ze,List.length_cons]at hl;have U:Hid (V=(B++[UInt8.ofNat (q%128+128)])++ca (q / 128)/\z+1=k+(B++[UInt8.ofNat (q%128+128)]).length):=⟨by rw[y.1,Zr];rfl,by rw[Ze,List.length_singleton];have:=y.2;omega⟩;have M:z+1<=k+10:=by have:=y.2;omega
   have K:bits .or .u8 ((q:Int)%256) 128=((UInt8.ofNat (q%128+128)).toNat:Int):=by rw[Od,UInt8.toNat_ofNat'];omega
   have E1:=zbj K;clear K hl y O;go_wp2_with (go_at_call 114;refine(zx g I z J (xs++B) _ (UInt8.ofNat (q%128+128)) E1.out _ w0 F oMg m2).mono ?_;rintro e w3 ⟨rfl,Z,c3,m3⟩)
   go_roundg (q / 128)
   case measure=>omega
   case rel=>exact⟨q / 128,z+1,c3,Z,B++[UInt8.ofNat (q%128+128)],rfl,by go_num,oMg,oMg,U,M,by rw[<-Zr];exact m3⟩
theorem kx (B:Option Addr)(n c:Nat)(xs:List UInt8)(v:Nat)(J:v<18446744073709551616)(w w0:World)(S:ba)(m:Mod w w0 S)(r:bk S B n (b7 xs))(hn:n<=1000000000) :
 Calls Tryz.prog 64 #[.slice B n c,.int .u64 (v:Int)] w fun e w'=>∃A' c',e=.returned (.slice A' (n+(ca v).length) c')/\Mod w' w0 (ar 5 1 (.slice A' (n+(ca v).length) c') (n+(ca v).length) (b7 (xs++ca v))*S):=by
 have I:=cN J;have hp:=we v;obtain⟨V,z⟩:∃V,ca v=V:=⟨_,rfl⟩;have y:=zbj (fun(g:Nat)(w:World)(F:ba) m=>C2 g v J none 0 0 [] w w0 F oMg m);rw[z]at y I hp ⊢;obtain⟨k,E⟩:∃k,V.length=k:=⟨_,rfl⟩;rw[E]at y I hp ⊢;clear z E;go_enter Tryz.func64,Tryz.ntmps64
 go_wp2_with (go_at_call 113;refine(y.out w.heap.size _ S (Mod.to (m:=lS (e:=5) (zbk:Mod (w.alloc (.cells #[.slice none 0 0] 67)) w0 _)) (by show _=aE w.heap.size (.cells #[.slice none 0 0] 67 (0,0))*(ar 5 1 (.slice none 0 0) 0 []*S);ac_rfl))).mono ?_;rintro e w1 ⟨rfl,A1,O,K⟩;simp only[ZM,List.nil_append]at K;refine Hid.out ?_)
 obtain⟨Y,Z⟩:=EQ (Mod.to (m:=K) (cC _ _ _)) oMg;subst Z;refine zbj ?_;go_wp2_with (go_at_call 115;refine(zI B n c xs _ V _ w0 _ zbk zbk Y k O zbk zbk oMg).mono ?_;rintro e w2 ⟨M,U,rfl,m2⟩)
 go_ret
 exact⟨M,U,rfl,Mod.keep m2⟩
theorem j9 (B:Option Addr)(n c:Nat)(xs:List UInt8)(s:ByteArray)(Z:s.size<=1000000000)(w w0:World)(S:ba)(m:Mod w w0 S)(r:bk S B n (b7 xs))(hn:n<=1000000000) :
 Calls Tryz.prog 65 #[.slice B n c,.string s] w fun e Y=>∃A' c',e=.returned (.slice A' (n+(ca s.size).length+s.size) c')/\Mod Y w0 (ar 5 1 (.slice A' (n+(ca s.size).length+s.size) c') (n+(ca s.size).length+s.size) (b7 (xs++ca s.size++s.data.toList))*S):=by
 have I:=cN (n:=s.size) oMg;have y:=zbj (fun(w:World) m=>kx B n c xs s.size oMg w w0 S m r hn);obtain⟨V,z⟩:∃V,ca s.size=V:=⟨_,rfl⟩;rw[z]at y I ⊢;obtain⟨k,E⟩:∃k,V.length=k:=⟨_,rfl⟩;rw[E]at y I ⊢;clear z E;go_enter Tryz.func65,Tryz.ntmps65
 go_wp2_with first
  | (go_at_call 64;refine(y.out _ m).mono ?_;rintro e w1 ⟨J,M,rfl,m1⟩)
  | (go_at_call 115;refine(zI J (n+k) M (xs++V) _ s.data.toList _ w0 _ zbk zbk w1.heap.size s.size _ zbk zbk oMg).mono ?_;rintro e w2 ⟨K,O,rfl,U⟩)
 go_ret
 exact⟨K,O,rfl,Mod.keep U⟩
end Go.Proofs.YtdfppjcaelghhaaGreatDoor
namespace Go.Sl
open Go
structure bi where
 num:Nat
 level:Int
 least:ByteArray
 most:ByteArray
def bi.cells (f:bi):List Value:=[.int .u32 (f.num:Int),.int .i64 f.level,.string f.least,.string f.most]
def mj (s:ByteArray):Bool := !s.toList.isEmpty&&decide (s.size<=32)
def Bu (l:Int):Bool:=decide (0<=l)&&decide (l<4)
def Ov (a b:ByteArray):Bool:=Op.bytesLess a.toList b.toList||a.toList==b.toList
def oC (f:bi):Bool:=((Bu f.level&&mj f.least)&&mj f.most)&&Ov f.least f.most
end Go.Sl
namespace Go.Proofs.YtdfppjcaelghhaaGreatDoor
open Go.RowKit Go.Sl
attribute [local go_sem] ab bj bh bd
theorem fi (s:ByteArray)(w w0:World)(S:ba)(m:Mod w w0 S):Calls Tryz.prog 62 #[.string s] w fun e J=>e=.returned (.bool (mj s))/\Mod J w0 S:=by
 have y:decide ((s.size:Int)<=32)=decide (s.size<=32):=by congr 1;exact propext ⟨fun h=>by omega,fun h=>by omega⟩
 have I:=zbj y;have B:Hid (mj s=(!s.toList.isEmpty&&decide (s.size<=32))):=rfl;clear y;cases z:s.toList.isEmpty
 ·rw[z]at B
  have E:¬s.toList=[]:=by intro h;rw[h]at z;cases z
  go_enter Tryz.func62,Tryz.ntmps62
  go_wp2_with fail
  go_ret
  exact⟨by rw[B.out,<-I.out];simp,m⟩
 ·rw[z]at B
  have E:s.toList=[]:=by simpa using z
  go_enter Tryz.func62,Tryz.ntmps62
  go_wp2_with fail
  go_ret
  exact⟨by rw[B.out];rfl,m⟩
theorem Jl (f:bi)(w w0:World)(S:ba)(m:Mod w w0 S):Calls Tryz.prog 243 #[.agg #[.int .u32 (f.num:Int),.int .i64 f.level,.string f.least,.string f.most]] w fun e w'=>e=.returned (.bool (oC f))/\Mod w' w0 S:=by
 obtain⟨num,lv,a,b⟩:=f;have y:Hid (oC ⟨num,lv,a,b⟩=(((Bu lv&&mj a)&&mj b)&&Ov a b)):=rfl;have M:Mod (w.alloc (.cells #[.int .u32 (num:Int),.int .i64 lv,.string a,.string b] 44)) w0 _:=Mod.alloc (m:=m) _;show Calls Tryz.prog _ #[.agg #[.int .u32 (num:Int),.int .i64 lv,.string a,.string b]] _ _
 cases E:Bu lv with
 | false =>
   rw[E]at y;have I:lv<0\/4<=lv:=by unfold Bu at E;simp at E;omega
   clear E;rcases I with h | h
   ·have h':¬(0:Int)<=lv:=oMg
    go_enter Tryz.func243,Tryz.ntmps243
    go_wp2_with fail
    go_ret
    exact⟨by rw[y.out];rfl,Mod.keep M⟩
   ·have h':¬lv<4:=oMg
    have Y:(0:Int)<=lv:=oMg
    go_enter Tryz.func243,Tryz.ntmps243
    go_wp2_with fail
    go_ret
    exact⟨by rw[y.out];rfl,Mod.keep M⟩
 | true =>
   rw[E]at y;have I:0<=lv/\lv<4:=by unfold Bu at E;simp at E;omega
   obtain⟨Z,aa⟩:=I;clear E
   cases z:mj a with
   | false =>
     have J:=zbj (fun(u:World)(S:ba)(O:Mod u w0 S)=>fi a u w0 S O);rw[z]at J y;clear z;go_enter Tryz.func243,Tryz.ntmps243
     go_wp2_with (go_at_call 62;refine(J.out _ _ M).mono ?_;rintro e w1 ⟨rfl,K⟩)
     go_ret
     exact⟨by rw[y.out];rfl,Mod.keep K⟩
   | true =>
     have J:=zbj (fun(u:World)(S:ba)(O:Mod u w0 S)=>fi a u w0 S O);have U:=zbj (fun(u:World)(S:ba)(O:Mod u w0 S)=>fi b u w0 S O);rw[z]at J y;clear z
     cases B:mj b with
     | false =>
       rw[B]at U y;clear B;go_enter Tryz.func243,Tryz.ntmps243
       go_wp2_with first
        | (go_at_call 62;refine(U.out _ _ K).mono ?_;rintro e w2 ⟨rfl,V⟩)
        | (go_at_call 62;refine(J.out _ _ M).mono ?_;rintro e w1 ⟨rfl,K⟩)
       go_ret
       exact⟨by rw[y.out];rfl,Mod.keep V⟩
     | true =>
       rw[B]at U y;clear B;go_enter Tryz.func243,Tryz.ntmps243
       go_wp2_with first
        | (go_at_call 62;refine(U.out _ _ K).mono ?_;rintro e w2 ⟨rfl,V⟩)
        | (go_at_call 62;refine(J.out _ _ M).mono ?_;rintro e w1 ⟨rfl,K⟩)
       go_ret
       exact⟨by rw[y.out];rfl,Mod.keep V⟩
theorem DR (f:bi)(w w0:World)(S:ba)(m:Mod w w0 S):Calls Tryz.prog 242 #[.agg #[.int .u32 (f.num:Int),.int .i64 f.level,.string f.least,.string f.most]] w fun e B=>e=.returned (.bool (!oC f))/\Mod B w0 S:=by
 have H:=zbj (fun(u:World)(S:ba)(z:Mod u w0 S)=>Jl f u w0 S z);generalize oC f=b at *;go_enter Tryz.func242,Tryz.ntmps242
 go_wp2_with (go_at_call 243;refine(H.out _ _ (Mod.alloc (m:=m) _)).mono ?_;rintro e w1 ⟨rfl,y⟩)
 go_ret
 exact⟨rfl,Mod.keep y⟩
structure du (S:ba)(A:Option Addr)(n:Nat)(l:List bi):Prop where
 len:l.length=n
 cells:bk S A (n*4) (l.flatMap bi.cells)
theorem du.lift {S' S:ba}{A:Option Addr}{n:Nat}{l:List bi}(s:Sub S' S)(r:du S A n l):du S' A n l:=⟨r.len,ct s r.cells⟩
theorem wF:∀(l:List bi)(k j:Nat)(v:Value)(h:k<l.length),l[k].cells[j]?=some v->(l.flatMap bi.cells)[k*4+j]?=some v
 | [],k,_,_,h,_=>by simp at h
 | x::l,0,j,v,_,hv=>by
   simp only[List.getElem_cons_zero]at hv;rw[Zp,Xj,ZM,Yz (Yd.1 hv).1];exact hv
 | x::l,k+1,j,v,h,hv=>by
   have y:x.cells.length=4:=rfl;rw[Zp,Z7 (by rw[y];omega),y,show (k+1)*4+j-4=k*4+j by omega];exact wF l k j v (by simpa using h) (by simpa using hv)
theorem oL {S:ba}{b o n:Nat}{l:List bi}(r:du S (some ⟨b,o,none⟩) n l){k:Nat}(y:k<l.length):bw S b (o+k*4) (.int .u32 (l[k].num:Int))/\bw S b (o+k*4+1) (.int .i64 l[k].level)/\bw S b (o+k*4+2) (.string l[k].least)/\bw S b (o+k*4+3) (.string l[k].most):=by
 have hp:0<n*4:=by have:=r.len;omega
 have f:∀j v,l[k].cells[j]?=some v->bw S b (o+k*4+j) v:=fun j v z=>by
  rw[YB];exact eL r.cells hp _ (wF l k j v y z)
 exact⟨f 0 _ rfl,f 1 _ rfl,f 2 _ rfl,f 3 _ rfl⟩
theorem j8 {w w0:World}{S:ba}{A:Option Addr}{n:Nat}{l:List bi}(m:Mod w w0 S)(r:du S A n l){k:Nat}(B:k<n):∃b o,A=some ⟨b,o,none⟩:=by
 obtain⟨ad,z,y,_⟩:=cP m r.cells oMg;obtain⟨b,o,E⟩:=ad;simp only at y;subst y;exact⟨b,o,z⟩
def ko (p:bi->Bool)(l:List bi):Int:=match l.findIdx? p with | some i=>(i:Int) | none => -1
theorem zB {p:bi->Bool}{l:List bi}{i:Nat}(y:i<l.length)(h:∀j (_:j<l.length),j<i->p l[j]=false)(hp:p l[i]=true):ko p l=(i:Int):=by
 unfold ko
 have:l.findIdx? p=some i:=by
  rw[Zk];exact⟨y,hp,fun j z=>by simpa using h j oMg z⟩
 rw[this]
theorem vC {p:bi->Bool}{l:List bi}(h:∀j (_:j<l.length),p l[j]=false):ko p l = -1:=by
 unfold ko
 have:l.findIdx? p=none:=by
  rw[ZV];intro x z;obtain⟨j,y,rfl⟩:=ZI.1 z;exact h j y
 rw[this]
theorem zA (A:Option Addr)(n c:Nat)(l:List bi)(w w0:World)(S:ba)(m:Mod w w0 S)(r:du S A n l)(hn:n<=1000000000) :
 Calls Tryz.prog 184 #[.slice A n c,.func (.func 242) #[] #[]] w fun e w'=>e=.returned (.int .i64 (ko (fun f => !oC f) l))/\Mod w' w0 S:=by
 have R:=zbj r;obtain⟨z,V⟩:∃z,ko (fun f => !oC f) l=z:=⟨_,rfl⟩;rw[V];have Z:=zbj V;clear r V;go_enter Tryz.func184,Tryz.ntmps184
 go_wp2_with fail
 go_loopg [8] n (fun gk iv wr=>∃i:Nat,i<=n/\gk=n-i/\iv=.int .i64 (i:Int)/\Hid (∀j (_:j<l.length),j<i->(!oC l[j])=false)/\Mod wr w0 S)
 case atStart=>exact⟨0,Zv _,rfl,rfl,(fun j _ M=>by omega),m⟩
 case round =>
  obtain⟨i,hi,aa,rfl,y,O⟩:=hrel;by_cases I:i<n
  ·have U:(i:Int)<(n:Int):=oMg
   have J:i<l.length:=by rw[R.out.len];exact I
   obtain⟨b,o,rfl⟩:=j8 O R.out I;obtain⟨c0,c1,c2,c3⟩:=oL R.out J;have K:=zbj (fun(u:World)(mu:Mod u w0 S)=>DR l[i] u w0 S mu)
   cases hp:oC l[i]with
   | true =>
     rw[hp]at K
     have E:Hid (∀j (_:j<l.length),j<i+1->(!oC l[j])=false):=fun j M ae=>by
      by_cases e:j=i
      ·subst e;rw[hp];rfl
      ·exact y.out j M oMg
     clear hp;generalize l[i]=f at *;go_wp2_with (go_at_call 242;refine(K.out _ O).mono ?_;rintro e w1 ⟨rfl,Y⟩)
     go_roundg (n-(i+1))
     case measure=>omega
     case rel=>exact⟨i+1,I,rfl,by go_num,E,Y⟩
   | false =>
     rw[hp]at K;have B:Hid (z=(i:Int)):=by show _=_;rw[<-Z.out];exact zB J y.out (by rw[hp];rfl)
     clear hp;generalize l[i]=f at *;go_wp2_with (go_at_call 242;refine(K.out _ O).mono ?_;rintro e w1 ⟨rfl,Y⟩)
     (try rw[Exit.noGoto_ret])
     go_ret
     exact⟨by rw[B.out];rfl,Y⟩
  ·have U:¬(i:Int)<(n:Int):=oMg
   have B:Hid (z = -1):=by
    show _=_;rw[<-Z.out];exact vC fun j M=>y.out j M (by have:=R.out.len;omega)
   go_wp2_with fail
   go_ret
   exact⟨by rw[B.out];rfl,O⟩
theorem Gq (p:bi->Bool)(l:List bi):decide (0<=ko p l)=l.any p:=by
 unfold ko
 cases h:l.findIdx? p with
 | none =>
   rw[ZV]at h;have:l.any p=false:=by rw[Y3];intro x z;rw[h x z];decide
   rw[this];rfl
 | some i =>
   obtain⟨y,hp,_⟩:=Zk.1 h;have:l.any p=true:=Yb.2 ⟨l[i],Zq y,hp⟩;rw[this];show decide (0<=(i:Int))=true;exact decide_eq_true oMg
def kh (l:List bi):Bool:=l.all oC
theorem uq (A:Option Addr)(n c:Nat)(l:List bi)(w w0:World)(S:ba)(m:Mod w w0 S)(r:du S A n l)(hn:n<=1000000000) :
 Calls Tryz.prog 178 #[.slice A n c] w fun e E=>e=.returned (.bool (kh l))/\Mod E w0 S:=by
 have H:=zbj (fun(u:World)(B:Mod u w0 S)=>zA A n c l u w0 S B r hn)
 have K:(!decide (0<=ko (fun f => !oC f) l))=kh l:=by
  rw[Gq];unfold kh;rw[List.all_eq_not_any_not]
 have I:=zbj K;generalize ko (fun f => !oC f) l=z at *;clear K;by_cases M:0<=z
 ·rw[decide_eq_true M]at I
  have J:Hid (∀u,Mod u w0 S->Calls Tryz.prog 241 #[.slice A n c,.func (.func 242) #[] #[]] u fun e E=>e=.returned (.bool true)/\Mod E w0 S):=fun u B=>by
   go_enter Tryz.func241,Tryz.ntmps241
   go_wp2_with (go_at_call 184;refine(H.out _ B).mono ?_;rintro e w1 ⟨rfl,y⟩)
   go_ret
   exact⟨rfl,y⟩
  go_enter Tryz.func178,Tryz.ntmps178
  go_wp2_with (go_at_call 241;refine(J.out _ m).mono ?_;rintro e w1 ⟨rfl,y⟩)
  go_ret
  exact⟨by rw[<-I.out];rfl,y⟩
 ·rw[decide_eq_false M]at I
  have O:z<0:=oMg
  have J:Hid (∀u,Mod u w0 S->Calls Tryz.prog 241 #[.slice A n c,.func (.func 242) #[] #[]] u fun e E=>e=.returned (.bool false)/\Mod E w0 S):=fun u B=>by
   go_enter Tryz.func241,Tryz.ntmps241
   go_wp2_with (go_at_call 184;refine(H.out _ B).mono ?_;rintro e w1 ⟨rfl,y⟩)
   go_ret
   exact⟨congrArg (fun b=>Ending.returned (.bool b)) (decide_eq_false oMg),y⟩
  go_enter Tryz.func178,Tryz.ntmps178
  go_wp2_with (go_at_call 241;refine(J.out _ m).mono ?_;rintro e w1 ⟨rfl,y⟩)
  go_ret
  exact⟨by rw[<-I.out];rfl,y⟩
end Go.Proofs.YtdfppjcaelghhaaGreatDoor
namespace Go.Sl
open Go
structure db where
 added:List bi
 removed:List Nat
 al:Nat
 next:Nat
 seq:Nat
def fk (s:ByteArray):List UInt8:=ca s.size++s.data.toList
def lI (f:bi):List UInt8:=ca f.num++(ca f.level.toNat++(fk f.least++fk f.most))
def de (x:db):List UInt8:=ca x.added.length++(x.added.flatMap lI++(ca x.removed.length++(x.removed.flatMap ca++(ca x.al++(ca x.next++ca x.seq)))))
theorem tF {s:ByteArray}(h:s.size<=32):(fk s).length<=42:=by
 have:=cN (n:=s.size) oMg;have e:s.data.toList.length=s.size:=by rw[Array.length_toList];rfl
 unfold fk;rw[Ze,e];omega
theorem wE {f:bi}(h:oC f=true)(hn:f.num<4294967296):(lI f).length<=104:=by
 unfold oC Bu mj at h;simp only[Yg,decide_eq_true_eq]at h;have y:=tF h.1.1.2.2;have z:=tF h.1.2.2;have B:=cN (n:=f.num) oMg;have E:=cN (n:=f.level.toNat) oMg;unfold lI;simp only[Ze];omega
theorem sL {α:Type}(g:α->List UInt8)(l:List α)(i:Nat)(h:i<l.length):(l.take (i+1)).flatMap g=(l.take i).flatMap g++g l[i]:=by
 rw[Zx h,Z4,List.flatMap_singleton]
theorem o7 {α:Type}(g:α->List UInt8)(k:Nat):∀(l:List α),(∀x∈l,(g x).length<=k)->(l.flatMap g).length<=k*l.length
 | [],_=>by simp
 | x::l,h=>by
   have B:=h x (Zj ..);have E:=o7 g k l fun y z=>h y (Zh _ z);rw[Zp,Ze,List.length_cons,Nat.mul_succ];omega
end Go.Sl
namespace Go.Proofs.YtdfppjcaelghhaaGreatDoor
open Go.RowKit Go.Sl
attribute [local go_sem] ab bj bh bd
theorem ol (z:Int)(v:Nat)(E:z=(v:Int))(B:Option Addr)(n c:Nat)(xs:List UInt8)(y:v<18446744073709551616)(w w0:World)(S:ba)(m:Mod w w0 S)(r:bk S B n (b7 xs))(hn:n<=1000000000) :
 Calls Tryz.prog 64 #[.slice B n c,.int .u64 z] w fun e I=>∃A' c',e=.returned (.slice A' (n+(ca v).length) c')/\Mod I w0 (ar 5 1 (.slice A' (n+(ca v).length) c') (n+(ca v).length) (b7 (xs++ca v))*S):=by
 subst E;exact kx B n c xs v y w w0 S m r hn
theorem FW (B:Option Addr)(n c:Nat)(xs:List UInt8)(f:bi)(hm:oC f=true)(z:f.num<4294967296)(w w0:World)(S:ba)(m:Mod w w0 S)(r:bk S B n (b7 xs))(hn:n<=900000000) :
 Calls Tryz.prog 180 #[.slice B n c,.agg #[.int .u32 (f.num:Int),.int .i64 f.level,.string f.least,.string f.most]] w fun e w'=>∃A' c',e=.returned (.slice A' (n+(lI f).length) c')/\Mod w' w0 (ar 5 1 (.slice A' (n+(lI f).length) c') (n+(lI f).length) (b7 (xs++lI f))*S):=by
 have y:=hm;unfold oC Bu mj at y;simp only[Yg,decide_eq_true_eq]at y;obtain⟨num,lv,a,b⟩:=f;simp only at y z ⊢;obtain⟨⟨⟨⟨aa,ae⟩,_,ha⟩,_,hb⟩,_⟩:=y;obtain⟨k,rfl⟩:∃k:Nat,lv=k:=⟨lv.toNat,oMg⟩;have E:lI ⟨num,(k:Int),a,b⟩=ca num++(ca k++(fk a++fk b)):=by unfold lI;simp
 have h1:=cN (n:=num) oMg;have h2:=cN (n:=k) oMg;have h3:=tF ha;have h4:=tF hb;have O:(fk a).length=(ca a.size).length+a.size:=by unfold fk;rw[Ze,td]
 have U:(fk b).length=(ca b.size).length+b.size:=by unfold fk;rw[Ze,td]
 have I:IntKind.u64.wrap (num:Int)=(num:Int):=by rw[IntKind.wrap_u64];omega
 have J:IntKind.u64.wrap (k:Int)=(k:Int):=by rw[IntKind.wrap_u64];omega
 go_enter Tryz.func180,Tryz.ntmps180
 go_wp2_with fail
 go_region_held3 (fun u=>u.cell? ⟨w.heap.size,0,none⟩=some (.int .u32 (num:Int))/\u.cell? ⟨w.heap.size,1,none⟩=some (.int .i64 (k:Int))) (refine⟨?_,?_⟩ <;> (rw[ab];rfl))
  (first
    | (go_at_call 64;refine(ol _ k rfl Z _ c1 _ oMg _ w0 _ V zbk oMg).mono ?_;rintro e w2 ⟨K,M,rfl,Y⟩)
    | (go_at_call 64;refine(ol _ num rfl B n c xs oMg _ w0 _ zbk zbk oMg).mono ?_;rintro e w1 ⟨Z,c1,rfl,V⟩))
 have m3:=Mod.keep (T:=ar 5 1 (.slice K (n+(ca num).length+(ca k).length) M) (n+(ca num).length+(ca k).length) (b7 (xs++ca num++ca k))*(aE w.heap.size (.cells #[.int .u32 (num:Int),.int .i64 (k:Int),.string a,.string b] 44 (0,0))*S)) Y;clear V Y I J;go_wp2_with fail
 go_region_held3 (fun u=>u.cell? ⟨w.heap.size,2,none⟩=some (.string a)/\u.cell? ⟨w.heap.size,3,none⟩=some (.string b)) (refine⟨?_,?_⟩ <;> (rw[ab];rfl))
  (first
    | (go_at_call 65;refine(j9 A4 _ c4 _ b oMg _ w0 _ m4 zbk oMg).mono ?_;rintro e w5 ⟨A5,c5,rfl,m5⟩)
    | (go_at_call 65;refine(j9 K _ M _ a oMg _ w0 _ (Mod.drew (m:=m3)) zbk oMg).mono ?_;rintro e w4 ⟨A4,c4,rfl,m4⟩))
 go_wp2_with fail
 go_ret
 refine⟨A5,c5,?_,?_⟩
 ·rw[E]
  simp only[Ze,O,U,<-YB];rfl
 ·have e1:xs++lI ⟨num,(k:Int),a,b⟩=xs++ca num++ca k++ca a.size++a.data.toList++ca b.size++b.data.toList:=by rw[E];simp only[fk,Zr]
  have e2:n+(lI ⟨num,(k:Int),a,b⟩).length=n+(ca num).length+(ca k).length+(ca a.size).length+a.size+(ca b.size).length+b.size:=by rw[E];simp only[Ze,O,U,<-YB]
  rw[e1,e2];exact Mod.keep m5
theorem FX (B:Option Addr)(n c:Nat)(xs:List UInt8)(v:Nat)(J:v<4294967296)(w w0:World)(S:ba)(m:Mod w w0 S)(r:bk S B n (b7 xs))(hn:n<=900000000) :
 Calls Tryz.prog 182 #[.slice B n c,.int .u32 (v:Int)] w fun e I=>∃A' c',e=.returned (.slice A' (n+(ca v).length) c')/\Mod I w0 (ar 5 1 (.slice A' (n+(ca v).length) c') (n+(ca v).length) (b7 (xs++ca v))*S):=by
 go_enter Tryz.func182,Tryz.ntmps182
 go_wp2_with (go_at_call 64;refine(ol _ v rfl B n c xs oMg _ w0 _ m r oMg).mono ?_;rintro e w1 ⟨y,z,rfl,E⟩)
 go_ret
 exact⟨y,z,rfl,E⟩
structure ku (S:ba)(A:Option Addr)(n:Nat)(l:List Nat):Prop where
 len:l.length=n
 cells:bk S A n (l.map fun v:Nat=>Value.int .u32 (v:Int))
theorem ku.lift {S' S:ba}{A:Option Addr}{n:Nat}{l:List Nat}(s:Sub S' S)(r:ku S A n l):ku S' A n l:=⟨r.len,ct s r.cells⟩
theorem GG {S:ba}{b o n:Nat}{l:List Nat}(r:ku S (some ⟨b,o,none⟩) n l){k:Nat}(y:k<l.length):bw S b (o+k) (.int .u32 (l[k]:Int)) :=
 eL r.cells (by have:=r.len;omega) k (by simp[y])
theorem wQ {w w0:World}{S:ba}{A:Option Addr}{n:Nat}{l:List Nat}(m:Mod w w0 S)(r:ku S A n l){k:Nat}(B:k<n):∃b o,A=some ⟨b,o,none⟩:=by
 obtain⟨ad,z,y,_⟩:=cP m r.cells oMg;obtain⟨b,o,E⟩:=ad;simp only at y;subst y;exact⟨b,o,z⟩
theorem PT (B:Option Addr)(z cb:Nat)(xs:List UInt8)(A:Option Addr)(n c:Nat)(l:List bi)(w w0:World)(S:ba)(m:Mod w w0 S)(r:bk S B z (b7 xs))(av:z<=1000)(ra:du S A n l)(hn:n<=1100000)(K:∀f∈l,oC f=true/\f.num<4294967296) :
 Calls Tryz.prog 179 #[.slice B z cb,.slice A n c,.func (.func 180) #[] #[]] w fun e w'=>∃A' c',e=.returned (.slice A' (z+(ca n++l.flatMap lI).length) c')/\Mod w' w0 (ar 5 1 (.slice A' (z+(ca n++l.flatMap lI).length) c') (z+(ca n++l.flatMap lI).length) (b7 (xs++(ca n++l.flatMap lI)))*S):=by
 have hv:=cN (n:=n) oMg;obtain⟨V,hV⟩:∃V,ca n++l.flatMap lI=V:=⟨_,rfl⟩;have HV:=zbj hV;rw[hV];clear hV;have HA:=zbj ra;have HH:=zbj K;have ai:IntKind.u64.wrap (n:Int)=(n:Int):=by rw[IntKind.wrap_u64];omega
 clear ra K;go_enter Tryz.func179,Tryz.ntmps179
 go_wp2_with (go_at_call 64;refine(ol _ n rfl B z cb xs oMg _ w0 _ m r oMg).mono ?_;rintro e w1 ⟨A1,c1,rfl,m1⟩)
 obtain⟨v0,y⟩:∃v0,ca n=v0:=⟨_,rfl⟩;have ag:=zbj y;rw[y]at m1 hv;rw[y];clear y ai;go_loopg [0,16] n (fun gk vb iv wr=>∃(i:Nat)(U:Option Addr)(E cr:Nat)(I:List UInt8),i<=n/\gk=n-i/\iv=.int .i64 (i:Int)/\vb=.slice U E cr/\E<=z+10+104*i/\Hid (E=z+I.length)/\Hid (I=v0++(l.take i).flatMap lI)/\Mod wr w0 (ar 5 1 (.slice U E cr) E (b7 (xs++I))*S))
 case atStart=>exact⟨0,A1,_,c1,v0,Zv _,rfl,rfl,rfl,oMg,rfl,by show _=_;rw[List.take_zero,Yv,ZH],m1⟩
 case round =>
  obtain⟨i,U,E,cr,I,hi,au,rfl,rfl,ax,J,Z,m2⟩:=hrel;by_cases O:i<n
  ·have ah:(i:Int)<(n:Int):=oMg
   have M:i<l.length:=by rw[HA.out.len];exact O
   obtain⟨b,o,rfl⟩:=j8 m2 (HA.out.lift zbk) O;obtain⟨c0,aj,c2,ak⟩:=oL HA.out M;have Hs:=zbj (sL lI l i M);have K:=HH.out _ (Zq M);have af:=wE K.1 K.2;generalize l[i]=f at *;have HF:=zbj (fun(u:World)(SS:ba)(mu:Mod u w0 SS)(rr:bk SS U E (b7 (xs++I)))=>FW U E cr (xs++I) f K.1 K.2 u w0 SS mu rr oMg);obtain⟨FB,aa⟩:∃FB,lI f=FB:=⟨_,rfl⟩;rw[aa]at HF Hs af;clear aa;go_wp2_with (go_at_call 180;refine(HF.out _ _ (Mod.alloc (m:=m2) _) zbk).mono ?_;rintro e w3 ⟨A3,c3,rfl,m3⟩)
   go_roundg (n-(i+1))
   case measure=>omega
   case rel=>exact⟨i+1,A3,E+FB.length,c3,I++FB,O,rfl,by go_num,rfl,oMg,by show _=_;rw[Ze,J.out];omega,by show _=_;rw[Hs.out,Z.out,Zr],by rw[<-Zr];exact Mod.keep m3⟩
  ·have ah:¬(i:Int)<(n:Int):=oMg
   have ae:V=I:=by
    rw[<-HV.out,Z.out,<-ag.out,Zn (by have:=HA.out.len;omega)]
   have Y:=zbj ae;clear ae;go_wp2_with fail
   go_ret
   exact⟨U,cr,by rw[Y.out,<-J.out];rfl,by rw[Y.out,<-J.out];exact m2⟩
theorem F3 (B:Option Addr)(z cb:Nat)(xs:List UInt8)(A:Option Addr)(n c:Nat)(l:List Nat)(w w0:World)(S:ba)(m:Mod w w0 S)(r:bk S B z (b7 xs))(ak:z<=200000000)(ra:ku S A n l)(hn:n<=1100000)(hh:∀v∈l,v<4294967296) :
 Calls Tryz.prog 181 #[.slice B z cb,.slice A n c,.func (.func 182) #[] #[]] w fun e w'=>∃A' c',e=.returned (.slice A' (z+(ca n++l.flatMap ca).length) c')/\Mod w' w0 (ar 5 1 (.slice A' (z+(ca n++l.flatMap ca).length) c') (z+(ca n++l.flatMap ca).length) (b7 (xs++(ca n++l.flatMap ca)))*S):=by
 have hv:=cN (n:=n) oMg;obtain⟨V,hV⟩:∃V,ca n++l.flatMap ca=V:=⟨_,rfl⟩;have HV:=zbj hV;rw[hV];clear hV;have HA:=zbj ra;have HH:=zbj hh;have ai:IntKind.u64.wrap (n:Int)=(n:Int):=by rw[IntKind.wrap_u64];omega
 clear ra hh;go_enter Tryz.func181,Tryz.ntmps181
 go_wp2_with (go_at_call 64;refine(ol _ n rfl B z cb xs oMg _ w0 _ m r oMg).mono ?_;rintro e w1 ⟨A1,c1,rfl,m1⟩)
 obtain⟨v0,y⟩:∃v0,ca n=v0:=⟨_,rfl⟩;have ag:=zbj y;rw[y]at m1 hv;rw[y];clear y ai;go_loopg [0,16] n (fun gk vb iv wr=>∃(i:Nat)(O:Option Addr)(E Z:Nat)(I:List UInt8),i<=n/\gk=n-i/\iv=.int .i64 (i:Int)/\vb=.slice O E Z/\E<=z+10+10*i/\Hid (E=z+I.length)/\Hid (I=v0++(l.take i).flatMap ca)/\Mod wr w0 (ar 5 1 (.slice O E Z) E (b7 (xs++I))*S))
 case atStart=>exact⟨0,A1,_,c1,v0,Zv _,rfl,rfl,rfl,oMg,rfl,by show _=_;rw[List.take_zero,Yv,ZH],m1⟩
 case round =>
  obtain⟨i,O,E,Z,I,hi,aj,rfl,rfl,au,J,Y,m2⟩:=hrel;by_cases M:i<n
  ·have ah:(i:Int)<(n:Int):=oMg
   have K:i<l.length:=by rw[HA.out.len];exact M
   obtain⟨b,o,rfl⟩:=wQ m2 (HA.out.lift zbk) M;have c0:=GG HA.out K;have Hs:=zbj (sL ca l i K);have hh:=HH.out _ (Zq K);have af:=cN (n:=l[i]) oMg;generalize l[i]=f at *;have HF:=zbj (fun(u:World)(SS:ba)(mu:Mod u w0 SS)(rr:bk SS O E (b7 (xs++I)))=>FX O E Z (xs++I) f hh u w0 SS mu rr oMg);obtain⟨FB,aa⟩:∃FB,ca f=FB:=⟨_,rfl⟩;rw[aa]at HF Hs af;clear aa;go_wp2_with (go_at_call 182;refine(HF.out _ _ m2 zbk).mono ?_;rintro e w3 ⟨A3,c3,rfl,m3⟩)
   go_roundg (n-(i+1))
   case measure=>omega
   case rel=>exact⟨i+1,A3,E+FB.length,c3,I++FB,M,rfl,by go_num,rfl,oMg,by show _=_;rw[Ze,J.out];omega,by show _=_;rw[Hs.out,Y.out,Zr],by rw[<-Zr];exact Mod.keep m3⟩
  ·have ah:¬(i:Int)<(n:Int):=oMg
   have ae:V=I:=by
    rw[<-HV.out,Y.out,<-ag.out,Zn (by have:=HA.out.len;omega)]
   have U:=zbj ae;clear ae;go_wp2_with fail
   go_ret
   exact⟨O,Z,by rw[U.out,<-J.out];rfl,by rw[U.out,<-J.out];exact m2⟩
structure xb where
 aA:Option Addr
 aC:Nat
 rA:Option Addr
 rC:Nat
def jW (L:xb)(x:db):Array Value:=#[.slice L.aA x.added.length L.aC,.slice L.rA x.removed.length L.rC,.int .u32 (x.al:Int),.int .u32 (x.next:Int),.int .u64 (x.seq:Int)]
structure kW (S:ba)(L:xb)(x:db):Prop where
 added:du S L.aA x.added.length x.added
 removed:ku S L.rA x.removed.length x.removed
 nums:∀f∈x.added,f.num<4294967296
 Mb:∀v∈x.removed,v<4294967296
 JP:x.added.length<=1100000
 JQ:x.removed.length<=1100000
 al:x.al<4294967296
 next:x.next<4294967296
 seq:x.seq<18446744073709551616
 O9:x.added.length<=L.aC
 Pa:x.removed.length<=L.rC
theorem kW.lift {S' S:ba}{L:xb}{x:db}(s:Sub S' S)(r:kW S L x):kW S' L x :=
 ⟨r.added.lift s,r.removed.lift s,r.nums,r.Mb,r.JP,r.JQ,r.al,r.next,r.seq,r.O9,r.Pa⟩
def ts (x:db)(S:ba)(w0:World)(e:Ending)(y:World):Prop :=
 (kh x.added=false/\e=.returned (.tuple #[.slice none 0 0,.int .i64 1])/\Mod y w0 S) \/
 (kh x.added=true/\∃A c,e=.returned (.tuple #[.slice A (de x).length c,.int .i64 0])/\Mod y w0 (ar 5 1 (.slice A (de x).length c) (de x).length (b7 (de x))*S))
theorem qo (L:xb)(x:db)(w w0:World)(S:ba)(m:Mod w w0 S)(r:kW S L x) :
 Calls Tryz.prog 121 #[.agg (jW L x)] w (ts x S w0):=by
 obtain⟨aA,aC,rA,rC⟩:=L;obtain⟨I,Z,jn,nx,sq⟩:=x;obtain⟨r1,r2,av,ae,ak,au,hj,hx,hq,_,_⟩:=r;simp only at r1 r2 av ae ak au hj hx hq;show Calls Tryz.prog _ #[.agg #[.slice aA I.length aC,.slice rA Z.length rC,.int .u32 (jn:Int),.int .u32 (nx:Int),.int .u64 (sq:Int)]] _ _;obtain⟨V,O⟩:∃V,I.length=V:=⟨_,rfl⟩;obtain⟨nr,U⟩:∃nr,Z.length=nr:=⟨_,rfl⟩;have ag:=zbj O;have ah:=zbj U;rw[O]at r1 ak;rw[U]at r2 au;rw[O,U];clear O U;have HF:=zbj (fun(u:World)(B:ba)(mu:Mod u w0 B)(ra:du B aA V I)=>uq aA V aC I u w0 B mu ra oMg);have az:IntKind.u64.wrap (jn:Int)=(jn:Int):=by rw[IntKind.wrap_u64];omega
 have aB:IntKind.u64.wrap (nx:Int)=(nx:Int):=by rw[IntKind.wrap_u64];omega
 cases hf:kh I with
 | false =>
   rw[hf]at HF;have Hf:=zbj hf;clear hf az aB;go_enter Tryz.func121,Tryz.ntmps121
   go_wp2_with (go_at_call 178;refine(HF.out _ _ (Mod.alloc (m:=m) _) (r1.lift zbk)).mono ?_;rintro e w1 ⟨rfl,m1⟩)
   go_ret2
   exact .inl ⟨Hf.out,rfl,Mod.keep m1⟩
 | true =>
   rw[hf]at HF;have z:∀f∈I,oC f=true/\f.num<4294967296:=fun f J=>⟨(Xx.1 hf) f J,av f J⟩;have ai:=o7 lI 104 I fun f J=>wE (z f J).1 (z f J).2;have aj:=o7 ca 10 Z fun v hv=>cN (by have:=ae v hv;omega);rw[ag.out]at ai;rw[ah.out]at aj;have ax:=cN (n:=V) oMg;have ay:=cN (n:=nr) oMg;have aG:=cN (n:=jn) oMg;have aH:=cN (n:=nx) oMg;have aa:=zbj (fun(u:World)(B:ba)(mu:Mod u w0 B)(ra:du B aA V I)=>PT none 0 0 [] aA V aC I u w0 B mu (bk.jE _) oMg ra oMg z);have Hf:=zbj hf;obtain⟨E,K⟩:∃E,ca V++I.flatMap lI=E:=⟨_,rfl⟩;have aD:E.length<=10+104*V:=by rw[<-K,Ze];omega
   obtain⟨Y,M⟩:∃Y,ca nr++Z.flatMap ca=Y:=⟨_,rfl⟩;have aF:Y.length<=10+10*nr:=by rw[<-M,Ze];omega
   rw[K]at aa;simp only[ZM,List.nil_append]at aa;have af:=zbj (fun(A1:Option Addr)(c1:Nat)(u:World)(B:ba)(mu:Mod u w0 B)(rr:bk B A1 E.length (b7 E))(ra:ku B rA nr Z)=>F3 A1 E.length c1 E rA nr rC Z u w0 B mu rr oMg ra oMg ae);rw[M]at af
   have HE:Hid (de ⟨I,Z,jn,nx,sq⟩=E++Y++ca jn++ca nx++ca sq):=by
    show _=_;unfold de;simp only[ag.out,ah.out,<-K,<-M,Zr]
   clear K M ai aj hf z ax ay;go_enter Tryz.func121,Tryz.ntmps121
   have y:=True.intro
   go_wp2_with first
    | (go_at_call 178;clear y;refine(HF.out _ _ (Mod.alloc (m:=m) _) (r1.lift zbk)).mono ?_;rintro e w1 ⟨rfl,m1⟩)
   have y:=True.intro
   go_wp2_with first
    | (go_at_call 179;clear y;refine(aa.out _ _ m1 (r1.lift zbk)).mono ?_;rintro e w2 ⟨A2,c2,rfl,m2⟩)
   have y:=True.intro
   go_wp2_with first
    | (go_at_call 181;clear y;refine(af.out A2 c2 _ _ m2 zbk (r2.lift zbk)).mono ?_;rintro e w3 ⟨A3,c3,rfl,m3⟩)
   refine wp_loop_rounds 4 ?_;rw[rounds_succ];have y:=True.intro
   go_wp2_with first
    | (go_at_call 64;clear y;refine(ol _ jn rfl A3 _ c3 (E++Y) oMg _ w0 _ (Mod.alloc (m:=m3) _) zbk oMg).mono ?_;rintro e w4 ⟨A4,c4,rfl,m4⟩)
   rw[rounds_succ];have y:=True.intro
   go_wp2_with first
    | (go_at_call 64;clear y;refine(ol _ nx rfl A4 _ c4 (E++Y++ca jn) oMg _ w0 _ m4 zbk oMg).mono ?_;rintro e w5 ⟨A5,c5,rfl,m5⟩)
   rw[rounds_succ];have y:=True.intro
   go_wp2_with first
    | (go_at_call 64;clear y;refine(ol _ sq rfl A5 _ c5 (E++Y++ca jn++ca nx) oMg _ w0 _ m5 zbk oMg).mono ?_;rintro e w6 ⟨A6,c6,rfl,m6⟩)
   rw[rounds_succ];go_wp2_with fail
   go_ret2
   have el:(de ⟨I,Z,jn,nx,sq⟩).length=E.length+Y.length+(ca jn).length+(ca nx).length+(ca sq).length:=by rw[HE.out];simp only[Ze]
   refine .inr ⟨Hf.out,A6,c6,?_,?_⟩
   ·rw[el];rfl
   ·rw[el,HE.out];exact Mod.keep m6
end Go.Proofs.YtdfppjcaelghhaaGreatDoor
namespace Go.Sl
def sa (b:List UInt8):Option Nat:=(b.take 10).findIdx? (fun c=>decide (c.toNat<128))
def ky:List UInt8->Nat
 | []=>0
 | c::l=>ky l*128+c.toNat%128
def jr (b:List UInt8):Nat×Nat×Nat:=match sa b with
 | none=>if b.length<10 then (0,0,5)else (0,0,4)
 | some e=>if (0<e/\(b.getD e 0).toNat=0)\/(e=9/\1<(b.getD e 0).toNat)then (0,0,4)else (ky (b.take (e+1)),e+1,0)
theorem zd {b:List UInt8}{e:Nat}(h:sa b=some e):e<b.length/\e<10/\(b.getD e 0).toNat<128:=by
 unfold sa at h;obtain⟨B,y,_⟩:=Zk.1 h;rw[Zt]at B;have z:e<b.length:=oMg
 refine⟨z,oMg,?_⟩;rw[YU]at y;rw[Zw,Zg z];simpa using y
theorem zt (b:List UInt8):(jr b).2.1<=b.length:=by
 unfold jr
 cases h:sa b with
 | none=>simp only;split <;> simp
 | some e =>
   have:=zd h;simp only
   split
   ·simp
   ·show e+1≤_;omega
theorem Ef:∀(l:List UInt8),ky l<128 ^ l.length
 | []=>by simp[ky]
 | c::l=>by
   have:=Ef l;simp only[ky,List.length_cons,Nat.pow_succ];omega
theorem zH (x:UInt8):∀(l:List UInt8),ky (l++[x])=ky l+128 ^ l.length*(x.toNat%128)
 | []=>by simp[ky]
 | c::l=>by
   simp only[List.cons_append,ky,zH x l,List.length_cons,Nat.pow_succ,zbi];have:128 ^ l.length*(x.toNat%128)*128=128 ^ l.length*128*(x.toNat%128):=by rw[Nat.mul_assoc,Nat.mul_comm (x.toNat%128),<-Nat.mul_assoc]
   omega
theorem zG:∀(l:List UInt8)(r:Nat),ky (l.drop r)<=ky l
 | [],r=>by simp
 | c::l,0=>Zm _
 | c::l,r+1=>by
   have:=zG l r;simp only[ZY,ky];omega
theorem xH {b:List UInt8}{e:Nat}(h:sa b=some e)(O:¬(e=9/\1<(b.getD e 0).toNat)):ky (b.take (e+1))<18446744073709551616:=by
 obtain⟨z,U,V⟩:=zd h
 have B:b.take (e+1)=b.take e++[b.getD e 0]:=by
  rw[Zx z,Zw,Zg z];rfl
 rw[B,zH];have K:(b.take e).length=e:=by rw[Zt];omega
 have J:=Ef (b.take e);rw[K]at J ⊢;have y:128 ^ e<=128 ^ 9:=XQ oMg oMg;by_cases I:e=9
 ·have M:(b.getD e 0).toNat%128<=1:=oMg
  have:=Nat.mul_le_mul (Zm (128 ^ e)) M;subst I;omega
 ·have E:128 ^ e<=128 ^ 8:=XQ oMg oMg
  have:=Nat.mul_le_mul E (show (b.getD e 0).toNat%128<=127 by omega);omega
theorem uz {b:List UInt8}{e r:Nat}(B:r<=e)(z:e<b.length):ky ((b.take (e+1)).drop r)=ky ((b.take (e+1)).drop (r+1))*128+(b.getD r 0).toNat%128:=by
 have y:r<(b.take (e+1)).length:=by rw[Zt];omega
 rw[Ya y];simp only[ky];rw[YU,Zw,Zg oMg];rfl
end Go.Sl
namespace Go.Proofs.YtdfppjcaelghhaaGreatDoor
open Go.RowKit Go.Sl
attribute [local go_sem] ab bj bh bd
theorem Gn (x:UInt8)(w w0:World)(S:ba)(m:Mod w w0 S):Calls Tryz.prog 227 #[.int .u8 (x.toNat:Int)] w fun e z=>e=.returned (.bool (decide (x.toNat<128)))/\Mod z w0 S:=by
 by_cases h:x.toNat<128
 ·have y:(x.toNat:Int)<128:=oMg
  rw[decide_eq_true h];go_enter Tryz.func227,Tryz.ntmps227
  go_wp2_with fail
  go_ret
  exact⟨rfl,m⟩
 ·have y:¬(x.toNat:Int)<128:=oMg
  rw[decide_eq_false h];go_enter Tryz.func227,Tryz.ntmps227
  go_wp2_with fail
  go_ret
  exact⟨rfl,m⟩
def sU:Option Nat->Int
 | some i=>(i:Int)
 | none => -1
theorem Ea (A:Option Addr)(n c:Nat)(l:List UInt8)(w w0:World)(S:ba)(m:Mod w w0 S)(r:bk S A n (b7 l))(hn:n<=1000000000) :
 Calls Tryz.prog 226 #[.slice A n c,.func (.func 227) #[] #[]] w fun e w'=>e=.returned (.int .i64 (sU (l.findIdx? fun c=>decide (c.toNat<128))))/\Mod w' w0 S:=by
 have Z:=fp m r;rw[fg]at Z;have Hl:=zbj Z;obtain⟨z,hz⟩:∃z,l.findIdx? (fun c=>decide (c.toNat<128))=z:=⟨_,rfl⟩;rw[hz];have Hz:=zbj hz;have R:=zbj r;clear r hz Z;go_enter Tryz.func226,Tryz.ntmps226
 go_wp2_with fail
 go_loopg [8] n (fun gk iv wr=>∃i:Nat,i<=n/\gk=n-i/\iv=.int .i64 (i:Int)/\Hid (∀j (_:j<l.length),j<i->¬l[j].toNat<128)/\Mod wr w0 S)
 case atStart=>exact⟨0,Zv _,rfl,rfl,(fun j _ I=>by omega),m⟩
 case round =>
  obtain⟨i,hi,aa,rfl,y,U⟩:=hrel;by_cases K:i<n
  ·have Y:(i:Int)<(n:Int):=oMg
   have J:i<l.length:=by rw[Hl.out];exact K
   obtain⟨ad,ha,M,V⟩:=cP U R.out oMg;clear V;obtain⟨b,o,sp⟩:=ad;simp only at M;subst M ha;have c0:bw S b (o+i) (.int .u8 (l[i].toNat:Int)):=eL R.out oMg i (by simp[b7,J]);have O:=zbj (fun(u:World)(mu:Mod u w0 S)=>Gn l[i] u w0 S mu);by_cases hp:l[i].toNat<128
   ·rw[decide_eq_true hp]at O
    have B:Hid (z=some i):=by
     show _=_;rw[<-Hz.out,Zk];exact⟨J,decide_eq_true hp,fun j I=>by simpa using y.out j oMg I⟩
    clear hp;generalize l[i]=f at *;go_wp2_with (go_at_call 227;refine(O.out _ U).mono ?_;rintro e w1 ⟨rfl,m2⟩)
    (try rw[Exit.noGoto_ret])
    go_ret
    exact⟨by rw[B.out];rfl,m2⟩
   ·rw[decide_eq_false hp]at O
    have E:Hid (∀j (_:j<l.length),j<i+1->¬l[j].toNat<128):=fun j I ae=>by
     by_cases e:j=i
     ·subst e;exact hp
     ·exact y.out j I oMg
    clear hp;generalize l[i]=f at *;go_wp2_with (go_at_call 227;refine(O.out _ U).mono ?_;rintro e w1 ⟨rfl,m2⟩)
    go_roundg (n-(i+1))
    case measure=>omega
    case rel=>exact⟨i+1,K,rfl,by go_num,E,m2⟩
  ·have Y:¬(i:Int)<(n:Int):=oMg
   have B:Hid (z=none):=by
    show _=_;rw[<-Hz.out,ZV];intro x hx;obtain⟨j,I,rfl⟩:=ZI.1 hx;exact decide_eq_false (y.out j I (by have:=Hl.out;omega))
   go_wp2_with fail
   go_ret
   exact⟨by rw[B.out];rfl,U⟩
theorem GL (V:Nat)(y:UInt8)(I:V*128<18446744073709551616):bits .or .u64 ((V:Int)*128) (IntKind.u64.wrap (bits .andNot .u8 (y.toNat:Int) 128))=((V*128+y.toNat%128:Nat):Int):=by
 have h:∀x:Fin 256,bits .andNot .u8 (x.val:Int) 128=((x.val%128:Nat):Int):=by decide +kernel
 have z:=h ⟨y.toNat,y.toNat_lt⟩;simp only at z;have B:IntKind.u64.wrap ((y.toNat%128:Nat):Int)=((y.toNat%128:Nat):Int):=by rw[IntKind.wrap_u64];omega
 have E:((V:Int)*128)=((V*128:Nat):Int):=oMg
 rw[z,B,E,u64_or_nat _ _ oMg oMg,nat_join 7 (V*128) (y.toNat%128) oMg oMg]
def Ph (b:List UInt8)(e:Nat):Prop:=¬((0<e/\(b.getD e 0).toNat=0)\/(e=9/\1<(b.getD e 0).toNat))
theorem Cd (A:Option Addr)(n c:Nat)(b:List UInt8)(w w0:World)(S:ba)(m:Mod w w0 S)(r:bk S A n (b7 b))(hn:n<=1000000000)(hc:n<=c) :
 Calls Tryz.prog 164 #[.slice A n c] w fun e w'=>e=.returned (.tuple #[.int .u64 ((jr b).1:Int),.int .i64 ((jr b).2.1:Int),.int .i64 ((jr b).2.2:Int)])/\Mod w' w0 S:=by
 have hl:=fp m r;rw[fg]at hl;obtain⟨k,hk⟩:∃k,min n 10=k:=⟨_,rfl⟩;have aB:min (n:Int) 10=(k:Int):=oMg
 have rk:bk S A k (b7 (b.take 10)):=by
  have h:=r.pre k oMg
  have e:(b7 b).take k=b7 (b.take 10):=by
   rw[<-hk];by_cases af:n<=10
   ·rw[YJ af,Zn (by rw[fg];omega),Zn oMg]
   ·rw[Nat.min_eq_right oMg];simp[b7]
  rwa [e]at h
 have Z:=zbj (fun(u:World)(mu:Mod u w0 S)=>Ea A k c (b.take 10) u w0 S mu rk oMg);obtain⟨z,hz⟩:∃z,jr b=z:=⟨_,rfl⟩;rw[hz];have Hz:=zbj hz;have Hl:=zbj hl;have aD:k<=n:=oMg
 clear hz rk hk
 cases Y:sa b with
 | none =>
   have I:=Y;unfold sa at I;rw[I]at Z;by_cases af:n<10
   ·have ae:z=(0,0,5):=by rw[<-Hz.out];unfold jr;rw[Y];simp only;rw[if_pos oMg]
    subst ae;have ag:(n:Int)<10:=oMg
    clear Y I hl;go_enter Tryz.func164,Tryz.ntmps164
    go_wp2_with (go_at_call 226;refine(Z.out _ m).mono ?_;rintro e w1 ⟨rfl,K⟩;simp only[sU])
    go_ret3
    exact⟨rfl,K⟩
   ·have ae:z=(0,0,4):=by rw[<-Hz.out];unfold jr;rw[Y];simp only;rw[if_neg oMg]
    subst ae;have ag:¬(n:Int)<10:=oMg
    clear Y I hl;go_enter Tryz.func164,Tryz.ntmps164
    go_wp2_with (go_at_call 226;refine(Z.out _ m).mono ?_;rintro e w1 ⟨rfl,K⟩;simp only[sU])
    go_ret3
    exact⟨rfl,K⟩
 | some e =>
   have I:=Y;unfold sa at I;rw[I]at Z;obtain⟨h1,h2,h3⟩:=zd Y;have az:e<n:=oMg
   obtain⟨ad,hA,aj,av⟩:=cP m r oMg;clear av;obtain⟨bb,o,sp⟩:=ad;simp only at aj;subst aj hA;obtain⟨x,hx⟩:∃x,b.getD e 0=x:=⟨_,rfl⟩;have cx:bw S bb (o+e) (.int .u8 (x.toNat:Int)):=eL r oMg e (by rw[<-hx,Zw,Zg h1];simp[b7,h1]);have aF:x.toNat<128:=by rw[<-hx];exact h3
   have He:=zbj Y
   have hg:z=if (0<e/\x.toNat=0)\/(e=9/\1<x.toNat)then (0,0,4)else (ky (b.take (e+1)),e+1,0):=by
    rw[<-Hz.out];unfold jr;rw[Y];simp only[hx]
   have Hx:=zbj hx;clear Y I h3 hx hl;have ay:(n:Int)<=(c:Int):=oMg
   by_cases hP:(0<e/\x.toNat=0)\/(e=9/\1<x.toNat)
   ·rw[if_pos hP]at hg
    subst hg;have au:(0<e/\x.toNat=0)\/(0<e/\¬x.toNat=0/\e=9/\1<x.toNat):=oMg
    clear hP;rcases au with⟨p1,p2⟩ | ⟨p1,p2,p3,p4⟩
    ·have q1:(0:Int)<(e:Int):=oMg
     have q2:((x.toNat:Int)==0)=true:=by rw[beq_iff_eq];omega
     have q3:(x.toNat:Int)=0:=oMg
     have q4:¬(e:Int)<0:=oMg
     clear p1 p2;go_enter Tryz.func164,Tryz.ntmps164
     go_wp2_with (go_at_call 226;refine(Z.out _ m).mono ?_;rintro e w1 ⟨rfl,K⟩;simp only[sU])
     go_ret3
     exact⟨rfl,K⟩
    ·subst p3
     have q2:((x.toNat:Int)==0)=false:=beq_eq_false_iff_ne.2 oMg;have q5:(1:Int)<(x.toNat:Int):=oMg
     clear p1 p2 p4;go_enter Tryz.func164,Tryz.ntmps164
     go_wp2_with (go_at_call 226;refine(Z.out _ m).mono ?_;rintro e w1 ⟨rfl,K⟩;simp only[sU])
     go_ret3
     exact⟨rfl,K⟩
   ·rw[if_neg hP]at hg
    subst hg;have hS:=xH He.out (by rw[Hx.out];exact fun h=>hP (.inr h));have HS:=zbj (fun r=>Nat.lt_of_le_of_lt (zG (b.take (e+1)) r) hS);have aa:e=0\/(0<e/\¬x.toNat=0/\¬e=9)\/(e=9/\¬x.toNat=0/\¬1<x.toNat):=oMg
    have R:=zbj r;have ax:=zbj h1;clear hP hS;rcases aa with rfl | ⟨p1,p2,p3⟩ | ⟨rfl,p2,p3⟩
    ·go_enter Tryz.func164,Tryz.ntmps164
     go_wp2_with (go_at_call 226;refine(Z.out _ m).mono ?_;rintro e w1 ⟨rfl,K⟩;simp only[sU,Int.natCast_zero])
     clear cx;go_loopg [2,6] (0+1) (fun gk vn vi wr=>∃(r:Nat)(z:Int),r<=0+1/\gk=r/\z+1=(r:Int)/\vi=.int .i64 z/\vn=.int .u64 ((ky ((b.take (0+1)).drop r):Nat):Int)/\Mod wr w0 S)
     case atStart=>exact⟨0+1,0,Zm _,rfl,oMg,rfl,by rw[Yj (by rw[Zt];exact Xq _ _)];rfl,K⟩
     case round =>
      obtain⟨r,z,hr,ah,hz,rfl,rfl,m2⟩:=hrel
      cases r with
      | zero =>
        obtain rfl:z = -1:=oMg
        rw[Z6];go_wp2_with fail
        (try rw[Exit.noGoto_ret])
        go_ret3
        exact⟨rfl,m2⟩
      | succ q =>
        obtain rfl:z=(q:Int):=oMg
        have B:=uz (b:=b) (e:=0) (r:=q) oMg oMg;have E:=HS.out q;rw[B]at E;obtain⟨y,U⟩:∃y,b.getD q 0=y:=⟨_,rfl⟩;rw[U]at B E;have J:q<b.length:=oMg
        have cy:bw S bb (o+q) (.int .u8 (y.toNat:Int)):=eL R.out oMg q (by rw[<-U,Zw,Zg J];simp[b7,J]);have O:=zbj B;have ak:=y.toNat_lt;clear B U hz;generalize ky ((b.take (0+1)).drop (q+1))=V at *;have hV:V*128<18446744073709551616:=oMg
        have ai:(q:Int)<(n:Int):=oMg
        have M:=zbj (GL V y hV);clear E;go_wp2_with fail
        go_roundg q
        case measure=>omega
        case rel=>exact⟨q,(q:Int)-1,oMg,rfl,oMg,rfl,by rw[O.out,<-M.out],m2⟩
    ·have q1:(0:Int)<(e:Int):=oMg
     have q2:((x.toNat:Int)==0)=false:=beq_eq_false_iff_ne.2 oMg;have q3:((e:Int)==9)=false:=beq_eq_false_iff_ne.2 oMg;have q4:¬(e:Int)<0:=oMg
     clear p1 p2 p3;go_enter Tryz.func164,Tryz.ntmps164
     go_wp2_with (go_at_call 226;refine(Z.out _ m).mono ?_;rintro e w1 ⟨rfl,K⟩;simp only[sU])
     clear cx;go_loopg [2,6] (e+1) (fun gk vn vi wr=>∃(r:Nat)(z:Int),r<=e+1/\gk=r/\z+1=(r:Int)/\vi=.int .i64 z/\vn=.int .u64 ((ky ((b.take (e+1)).drop r):Nat):Int)/\Mod wr w0 S)
     case atStart=>exact⟨e+1,(e:Int),Zm _,rfl,oMg,rfl,by rw[Yj (by rw[Zt];exact Xq _ _)];rfl,K⟩
     case round =>
      obtain⟨r,z,hr,ah,hz,rfl,rfl,m2⟩:=hrel
      cases r with
      | zero =>
        obtain rfl:z = -1:=oMg
        rw[Z6];go_wp2_with fail
        (try rw[Exit.noGoto_ret])
        go_ret3
        exact⟨rfl,m2⟩
      | succ q =>
        obtain rfl:z=(q:Int):=oMg
        have B:=uz (b:=b) (e:=e) (r:=q) oMg oMg;have E:=HS.out q;rw[B]at E;obtain⟨y,U⟩:∃y,b.getD q 0=y:=⟨_,rfl⟩;rw[U]at B E;have J:q<b.length:=oMg
        have cy:bw S bb (o+q) (.int .u8 (y.toNat:Int)):=eL R.out oMg q (by rw[<-U,Zw,Zg J];simp[b7,J]);have O:=zbj B;have ak:=y.toNat_lt;clear B U hz;generalize ky ((b.take (e+1)).drop (q+1))=V at *;have hV:V*128<18446744073709551616:=oMg
        have ai:(q:Int)<(n:Int):=oMg
        have M:=zbj (GL V y hV);clear E;go_wp2_with fail
        go_roundg q
        case measure=>omega
        case rel=>exact⟨q,(q:Int)-1,oMg,rfl,oMg,rfl,by rw[O.out,<-M.out],m2⟩
    ·have q2:((x.toNat:Int)==0)=false:=beq_eq_false_iff_ne.2 oMg
     have q5:¬(1:Int)<(x.toNat:Int):=oMg
     clear p2 p3;go_enter Tryz.func164,Tryz.ntmps164
     go_wp2_with (go_at_call 226;refine(Z.out _ m).mono ?_;rintro e w1 ⟨rfl,K⟩;simp only[sU])
     clear cx;go_loopg [2,6] (9+1) (fun gk vn vi wr=>∃(r:Nat)(z:Int),r<=9+1/\gk=r/\z+1=(r:Int)/\vi=.int .i64 z/\vn=.int .u64 ((ky ((b.take (9+1)).drop r):Nat):Int)/\Mod wr w0 S)
     case atStart=>exact⟨9+1,9,Zm _,rfl,oMg,rfl,by rw[Yj (by rw[Zt];exact Xq _ _)];rfl,K⟩
     case round =>
      obtain⟨r,z,hr,ah,hz,rfl,rfl,m2⟩:=hrel
      cases r with
      | zero =>
        obtain rfl:z = -1:=oMg
        rw[Z6];go_wp2_with fail
        (try rw[Exit.noGoto_ret])
        go_ret3
        exact⟨rfl,m2⟩
      | succ q =>
        obtain rfl:z=(q:Int):=oMg
        have B:=uz (b:=b) (e:=9) (r:=q) oMg oMg;have E:=HS.out q;rw[B]at E;obtain⟨y,U⟩:∃y,b.getD q 0=y:=⟨_,rfl⟩;rw[U]at B E;have J:q<b.length:=oMg
        have cy:bw S bb (o+q) (.int .u8 (y.toNat:Int)):=eL R.out oMg q (by rw[<-U,Zw,Zg J];simp[b7,J]);have O:=zbj B;have ak:=y.toNat_lt;clear B U hz;generalize ky ((b.take (9+1)).drop (q+1))=V at *;have hV:V*128<18446744073709551616:=oMg
        have ai:(q:Int)<(n:Int):=oMg
        have M:=zbj (GL V y hV);clear E;go_wp2_with fail
        go_roundg q
        case measure=>omega
        case rel=>exact⟨q,(q:Int)-1,oMg,rfl,oMg,rfl,by rw[O.out,<-M.out],m2⟩
end Go.Proofs.YtdfppjcaelghhaaGreatDoor
namespace Go.Sl
def qu (b:List UInt8):List UInt8×Nat×Nat :=
 if (jr b).2.2≠0 then ([],0,(jr b).2.2)
 else if b.length-(jr b).2.1<(jr b).1 then ([],0,5)
 else ((b.drop (jr b).2.1).take (jr b).1,(jr b).2.1+(jr b).1,0)
theorem Lz (b:List UInt8):(jr b).2.2=0\/(jr b).2.2=4\/(jr b).2.2=5:=by
 unfold jr
 split
 ·split <;> simp
 ·split <;> simp
theorem LA {b:List UInt8}(h:(jr b).2.2=0):1<=(jr b).2.1:=by
 unfold jr at h ⊢
 cases y:sa b with
 | none =>
   rw[y]at h;simp only at h
   split at h <;> cases h
 | some e =>
   rw[y]at h;simp only at h ⊢
   split at h
   ·cases h
   ·rename_i hn
    rw[if_neg hn];show 1<=e+1;omega
theorem zu (b:List UInt8):(jr b).1<18446744073709551616:=by
 unfold jr
 cases h:sa b with
 | none=>simp only;split <;> decide
 | some e =>
   simp only
   split
   ·decide
   ·rename_i hn
    exact xH h fun y=>hn (.inr y)
theorem Ly (b:List UInt8):(qu b).2.1<=b.length:=by
 have:=zt b;unfold qu
 split
 ·simp
 ·split
  ·simp
  ·show (jr b).2.1+(jr b).1≤_
   omega
end Go.Sl
namespace Go.Proofs.YtdfppjcaelghhaaGreatDoor
open Go.RowKit Go.Sl
attribute [local go_sem] ab bj bh bd tu
theorem Bm (A:Option Addr)(n c:Nat)(b:List UInt8)(w w0:World)(S:ba)(m:Mod w w0 S)(r:bk S A n (b7 b))(hn:n<=1000000000)(hc:n<=c) :
 Calls Tryz.prog 225 #[.slice A n c] w fun e w'=>e=.returned (.tuple #[.string ⟨(qu b).1.toArray⟩,.int .i64 ((qu b).2.1:Int),.int .i64 ((qu b).2.2:Int)])/\Mod w' w0 S:=by
 have K:=fp m r;rw[fg]at K;have M:=zbj (Cd A n c b w w0 S m r hn hc);have hk:=zt b;have U:=Lz b;have hs:=zu b;have V:(jr b).2.2=0->1<=(jr b).2.1:=LA;obtain⟨z,hz⟩:∃z,qu b=z:=⟨_,rfl⟩;have B:z=if (jr b).2.2≠0 then ([],0,(jr b).2.2)else if b.length-(jr b).2.1<(jr b).1 then ([],0,5)else ((b.drop (jr b).2.1).take (jr b).1,(jr b).2.1+(jr b).1,0):=by rw[<-hz];rfl
 rw[hz];clear hz;generalize jr b=g at *;obtain⟨v,k,Z⟩:=g;simp only at hk U hs B M V;rw[K]at hk B;by_cases h0:Z=0
 ·subst h0
  rw[if_neg (by simp)]at B;by_cases O:n-k<v
  ·rw[if_pos O]at B
   subst B;have hw:IntKind.u64.wrap ((n:Int)-(k:Int))=((n-k:Nat):Int):=by rw[IntKind.wrap_u64];omega
   have E:((n-k:Nat):Int)<(v:Int):=oMg
   have af:(k:Int)<=(n:Int):=oMg
   clear U K m r O;go_enter Tryz.func225,Tryz.ntmps225
   go_wp2_with (go_at_call 164;refine M.out.mono ?_;rintro e w1 ⟨rfl,J⟩)
   go_ret3
   exact⟨rfl,J⟩
  ·rw[if_neg O]at B
   subst B;have hw:IntKind.u64.wrap ((n:Int)-(k:Int))=((n-k:Nat):Int):=by rw[IntKind.wrap_u64];omega
   have E:¬((n-k:Nat):Int)<(v:Int):=oMg
   have af:(k:Int)<=(n:Int):=oMg
   have av:IntKind.i64.wrap (v:Int)=(v:Int):=by rw[IntKind.wrap_i64];omega
   have au:k+v<=n:=oMg
   have ak:(k:Int)+(v:Int)<=(c:Int):=oMg
   obtain⟨ad,hA,Y,aa⟩:=cP m r oMg;clear aa;obtain⟨bb,o,sp⟩:=ad;simp only at Y;subst Y hA;obtain⟨part,y⟩:∃part,(b.drop k).take v=part:=⟨_,rfl⟩
   have rp:bk S (some ⟨bb,o+k,none⟩) v (b7 part):=by
    have h:=r.sub k v oMg;rw[Bb,jl _ _ rfl,y]at h;exact h
   have I:part.length=v:=by rw[<-y,Zt,ZF];omega
   rw[y];by_cases ae:c=k
   ·subst ae
    have ah:v=0:=oMg
    subst ah;have ag:part=[]:=Zo I;subst ag;have ax:bk S (some ⟨bb,o,none⟩) 0 (b7 []):=bk.jE _;clear U K m O E y rp I;go_enter Tryz.func225,Tryz.ntmps225
    go_wp2_with (go_at_call 164;refine M.out.mono ?_;rintro e w1 ⟨rfl,J⟩)
    go_ret3
    exact⟨rfl,J⟩
   ·clear U K m O E y I
    go_enter Tryz.func225,Tryz.ntmps225
    go_wp2_with (go_at_call 164;refine M.out.mono ?_;rintro e w1 ⟨rfl,J⟩)
    go_ret3
    exact⟨rfl,J⟩
 ·rw[if_pos (by simpa using h0)]at B
  subst B;have ai:((Z:Int)==0)=false:=beq_eq_false_iff_ne.2 oMg;have aj:((Z:Int)!=0)=true:=bne_iff_ne.2 oMg;clear U K m r hs hk h0 V;go_enter Tryz.func225,Tryz.ntmps225
  go_wp2_with (go_at_call 164;refine M.out.mono ?_;rintro e w1 ⟨rfl,J⟩)
  go_ret3
  exact⟨rfl,J⟩
end Go.Proofs.YtdfppjcaelghhaaGreatDoor
namespace Go.Sl
open Go
abbrev fK:=List UInt8×Bool
def fJ (most:Nat)(s:fK):Nat×fK:=((jr s.1).1,(s.1.drop (jr s.1).2.1,s.2 || !(decide ((jr s.1).2.2=0)&&decide ((jr s.1).1<=most))))
def pt (s:fK):List UInt8×fK:=((qu s.1).1,(s.1.drop (qu s.1).2.1,s.2 || !(decide ((qu s.1).2.2=0))))
def Pi:Nat:=4294967295
theorem QH:(4294967295:Int)=(Pi:Int):=rfl
def fH (s:fK):Nat×fK:=((fJ Pi s).1%4294967296,(fJ Pi s).2)
def fC (s:fK):bi×fK :=
 let a:=fH s;let l:=fJ 4 a.2;let t:=pt l.2;let u:=pt t.2
 (⟨a.1,Go.RowKit.wrap64 (l.1:Int),⟨t.1.toArray⟩,⟨u.1.toArray⟩⟩,u.2)
end Go.Sl
namespace Go.Proofs.YtdfppjcaelghhaaGreatDoor
open Go.RowKit Go.Sl
attribute [local go_sem] ab bj bh bd
theorem qB {w w0:World}{S T:ba} [m:Mod w w0 S](h:S=T):Mod w w0 T:=h▸m
def Rd (g:Nat)(s:fK)(G F:ba)(w0 w:World):Prop :=
 ∃(A:Option Addr)(n c:Nat),s.1.length=n/\n<=c/\n<=1000000000/\bk G A n (b7 s.1)/\Mod w w0 (aE g (.cells #[.slice A n c,.bool s.2] 223 (0,0))*F)
theorem Rd.turn {g:Nat}{s:fK}{G F F':ba}{w0 w w1:World}(h:Rd g s G F w0 w)(m:∀X:ba,Mod w w0 (X*F)->Mod w1 w0 (X*F')):Rd g s G F' w0 w1:=by
 obtain⟨A,n,c,y,z,B,E,I⟩:=h;exact⟨A,n,c,y,z,B,E,m _ I⟩
theorem Rd.rest {g:Nat}{s:fK}{G F:ba}{w0 w:World}(h:Rd g s G F w0 w):Mod w w0 F:=by
 obtain⟨A,n,c,_,_,_,_,y⟩:=h;exact Mod.drop (m:=y)
theorem iX (g:Nat)(b:List UInt8)(y ok:Bool)(k:Nat)(V:k<=b.length)(G F:ba)(w w0:World)(h:Rd g (b,y) G F w0 w) :
 Calls Tryz.prog 224 #[ap g,.int .i64 (k:Int),.bool ok] w fun e w'=>e=.returned (.tuple #[])/\Rd g (b.drop k,y || !ok) G F w0 w':=by
 obtain⟨A,n,c,E,U,h3,I,m⟩:=h;simp only at E I m;have J:k<=n:=oMg
 have B:=nO I J U;have M:Hid ((b.drop k).length=n-k):=by show _=_;rw[ZF,E]
 have Y:(k:Int)<=(n:Int):=oMg
 have Z:(n:Int)<=(c:Int):=oMg
 clear I E V;by_cases z:c=k
 ·subst z
  rw[if_pos rfl]at B;have K:n-c=0:=oMg
  rw[K]at B;have O:=zbj K;clear K;cases y <;> cases ok
  all_goals
   go_enter Tryz.func224,Tryz.ntmps224
   go_wp2_with fail
   go_end0
   refine⟨rfl,A,0,0,by rw[M.out,O.out],Zm _,oMg,B,?_⟩;exact qB (by simp only[Zb,Zc,Zd,b9];rfl)
 ·rw[if_neg z]at B
  cases y <;> cases ok
  all_goals
   go_enter Tryz.func224,Tryz.ntmps224
   go_wp2_with fail
   go_end0
   refine⟨rfl,_,n-k,c-k,M.out,oMg,oMg,B,?_⟩;exact qB (by simp only[Zb,Zc,Zd,b9];rfl)
theorem fQ (g:Nat)(z:Int)(most:Nat)(hz:z=(most:Int))(s:fK)(G F:ba)(hs:Sub F G)(w w0:World)(h:Rd g s G F w0 w) :
 Calls Tryz.prog 161 #[ap g,.int .u64 z] w fun e w'=>e=.returned (.int .u64 ((fJ most s).1:Int))/\Rd g (fJ most s).2 G F w0 w':=by
 subst hz;obtain⟨b,y⟩:=s;obtain⟨A,n,c,Z,h2,h3,M,m⟩:=h;simp only at Z M m;have U:=zbj (fun(u:World)(mu:Mod u w0 (aE g (.cells #[.slice A n c,.bool y] 223 (0,0))*F))=>Cd A n c b u w0 _ mu (ct (zbk:Sub _ F) (ct hs M)) h3 h2);have hk:=zt b;have O:=Lz b;have aa:=zu b;have V:=zbj (fun(ok:Bool)(u:World)(mu:Mod u w0 (aE g (.cells #[.slice A n c,.bool y] 223 (0,0))*F))=>iX g b y ok (jr b).2.1 hk G F u w0 ⟨A,n,c,Z,h2,h3,M,mu⟩);have E:Hid (∀most,fJ most (b,y)=((jr b).1,(b.drop (jr b).2.1,y || !(decide ((jr b).2.2=0)&&decide ((jr b).1<=most))))):=fun _=>rfl;clear Z M hk;generalize jr b=z at *;obtain⟨v,k,er⟩:=z;simp only at O aa;by_cases Y:er=0
 ·subst Y
  by_cases J:v<=most
  ·have B:Hid (fJ most (b,y)=(v,(b.drop k,y || !true))):=by show _=_;rw[E.out];simp[J]
   have ae:(v:Int)<=(most:Int):=oMg
   clear E J O;go_enter Tryz.func161,Tryz.ntmps161
   go_wp2_with first
    | (go_at_call 164;refine(U.out _ m).mono ?_;rintro e w1 ⟨rfl,K⟩)
    | (go_at_call 224;refine(V.out true _ K).mono ?_;rintro e w2 ⟨rfl,I⟩)
   go_ret
   exact⟨by rw[B.out];rfl,by rw[B.out];exact I⟩
  ·have B:Hid (fJ most (b,y)=(v,(b.drop k,y || !false))):=by show _=_;rw[E.out];simp[J]
   have ae:¬(v:Int)<=(most:Int):=oMg
   have ag:decide (v<=most)=false:=decide_eq_false J;clear E J O;go_enter Tryz.func161,Tryz.ntmps161
   go_wp2_with first
    | (go_at_call 164;refine(U.out _ m).mono ?_;rintro e w1 ⟨rfl,K⟩)
    | (go_at_call 224;refine(V.out false _ K).mono ?_;rintro e w2 ⟨rfl,I⟩)
   go_ret
   exact⟨by rw[B.out];rfl,by rw[B.out];exact I⟩
 ·have B:Hid (fJ most (b,y)=(v,(b.drop k,y || !false))):=by show _=_;rw[E.out];simp[Y]
  have af:((er:Int)==0)=false:=beq_eq_false_iff_ne.2 oMg;clear E Y O;go_enter Tryz.func161,Tryz.ntmps161
  go_wp2_with first
   | (go_at_call 164;refine(U.out _ m).mono ?_;rintro e w1 ⟨rfl,K⟩)
   | (go_at_call 224;refine(V.out false _ K).mono ?_;rintro e w2 ⟨rfl,I⟩)
  go_ret
  exact⟨by rw[B.out];rfl,by rw[B.out];exact I⟩
theorem gP (g:Nat)(s:fK)(G F:ba)(I:Sub F G)(w w0:World)(h:Rd g s G F w0 w) :
 Calls Tryz.prog 160 #[ap g] w fun e J=>e=.returned (.int .u32 ((fH s).1:Int))/\Rd g (fH s).2 G F w0 J:=by
 have B:=zbj (fQ g 4294967295 Pi QH s G F I w w0 h);have y:Hid (fH s=((fJ Pi s).1%4294967296,(fJ Pi s).2)):=rfl;generalize fJ Pi s=z at *;obtain⟨v,K⟩:=z;go_enter Tryz.func160,Tryz.ntmps160
 go_wp2_with (go_at_call 161;refine B.out.mono ?_;rintro e w1 ⟨rfl,E⟩)
 go_ret
 exact⟨by rw[y.out];simp,by rw[y.out];exact E⟩
theorem iW (g:Nat)(s:fK)(G F:ba)(hs:Sub F G)(w w0:World)(h:Rd g s G F w0 w) :
 Calls Tryz.prog 223 #[ap g] w fun e w'=>e=.returned (.string ⟨(pt s).1.toArray⟩)/\Rd g (pt s).2 G F w0 w':=by
 obtain⟨b,y⟩:=s;obtain⟨A,n,c,K,Z,h3,I,m⟩:=h;simp only at K I m;have U:=zbj (fun(u:World)(mu:Mod u w0 (aE g (.cells #[.slice A n c,.bool y] 223 (0,0))*F))=>Bm A n c b u w0 _ mu (ct (zbk:Sub _ F) (ct hs I)) h3 Z);have hk:=Ly b;have V:=zbj (fun(ok:Bool)(u:World)(mu:Mod u w0 (aE g (.cells #[.slice A n c,.bool y] 223 (0,0))*F))=>iX g b y ok (qu b).2.1 hk G F u w0 ⟨A,n,c,K,Z,h3,I,mu⟩);have E:Hid (pt (b,y)=((qu b).1,(b.drop (qu b).2.1,y || !(decide ((qu b).2.2=0))))):=rfl;clear K I hk;generalize qu b=z at *;obtain⟨v,k,Y⟩:=z;by_cases J:Y=0
 ·subst J
  have B:Hid (pt (b,y)=(v,(b.drop k,y || !true))):=by show _=_;rw[E.out];rfl
  clear E;go_enter Tryz.func223,Tryz.ntmps223
  go_wp2_with first
   | (go_at_call 225;refine(U.out _ m).mono ?_;rintro e w1 ⟨rfl,O⟩)
   | (go_at_call 224;refine(V.out true _ O).mono ?_;rintro e w2 ⟨rfl,M⟩)
  go_ret
  exact⟨by rw[B.out];rfl,by rw[B.out];exact M⟩
 ·have B:Hid (pt (b,y)=(v,(b.drop k,y || !false))):=by show _=_;rw[E.out];simp[J]
  have aa:((Y:Int)==0)=false:=beq_eq_false_iff_ne.2 oMg;clear E J;go_enter Tryz.func223,Tryz.ntmps223
  go_wp2_with first
   | (go_at_call 225;refine(U.out _ m).mono ?_;rintro e w1 ⟨rfl,O⟩)
   | (go_at_call 224;refine(V.out false _ O).mono ?_;rintro e w2 ⟨rfl,M⟩)
  go_ret
  exact⟨by rw[B.out];rfl,by rw[B.out];exact M⟩
theorem QB:∃y,Tryz.prog.underlying 44=some (.struct y):=⟨_,Tryz.underlying44⟩
theorem KD:(Tryz.prog.info? 44).map (·.size)=some 4:=kRf
theorem pB {X F G:ba}(h:Sub F G):Sub (X*F) G:=Sub.right X F G (s:=h)
theorem PP (g:Nat)(s:fK)(G F:ba)(hs:Sub F G)(w w0:World)(h:Rd g s G F w0 w) :
 Calls Tryz.prog 158 #[ap g] w fun e w'=>e=.returned (.agg #[.int .u32 ((fC s).1.num:Int),.int .i64 (fC s).1.level,.string (fC s).1.least,.string (fC s).1.most])/\Rd g (fC s).2 G F w0 w':=by
 have h1:Rd g s G (aE w.heap.size (.cells #[.int .u32 0,.int .i64 0,.string ⟨#[]⟩,.string ⟨#[]⟩] 44 (0,0))*F) w0 (w.alloc (.cells #[.int .u32 0,.int .i64 0,.string ⟨#[]⟩,.string ⟨#[]⟩] 44)) :=
  h.turn fun X m=>Mod.to (m:=Mod.alloc (m:=m) _) (by ac_rfl)
 obtain⟨B,s1,O⟩:∃B s1,fH s=(B,s1):=⟨_,_,rfl⟩;obtain⟨E,s2,U⟩:∃E s2,fJ 4 s1=(E,s2):=⟨_,_,rfl⟩;obtain⟨I,s3,V⟩:∃I s3,pt s2=(I,s3):=⟨_,_,rfl⟩;obtain⟨J,s4,Y⟩:∃J s4,pt s3=(J,s4):=⟨_,_,rfl⟩;have Z:fC s=(⟨B,wrap64 (E:Int),⟨I.toArray⟩,⟨J.toArray⟩⟩,s4):=by unfold fC;simp only[O,U,V,Y]
 rw[Z];have H1:=zbj (fun(u:World)(y:ba)(M:Sub y G)(z:Rd g s G y w0 u)=>gP g s G y M u w0 z);have H2:=zbj (fun(u:World)(y:ba)(M:Sub y G)(z:Rd g s1 G y w0 u)=>fQ g 4 4 rfl s1 G y M u w0 z);have H3:=zbj (fun(u:World)(y:ba)(M:Sub y G)(z:Rd g s2 G y w0 u)=>iW g s2 G y M u w0 z);have H4:=zbj (fun(u:World)(y:ba)(M:Sub y G)(z:Rd g s3 G y w0 u)=>iW g s3 G y M u w0 z);rw[O]at H1;rw[U]at H2;rw[V]at H3;rw[Y]at H4;obtain⟨gf,K⟩:∃gf,w.heap.size=gf:=⟨_,rfl⟩;rw[K]at h1;have K1:=zbj h1;have HS:=zbj hs;clear h h1 Z O U V Y hs;go_enter Tryz.func158,Tryz.ntmps158
 go_wp2_with first
  | (go_at_call 160;refine(H1.out _ _ (pB HS.out) K1.out).mono ?_;rintro e w1 ⟨rfl,h2⟩;have K2:=zbj h2;clear h2)
  | (go_at_call 161;refine(H2.out _ _ (pB HS.out) K2.out).mono ?_;rintro e w2 ⟨rfl,h3⟩;have K3:=zbj h3;have m3:=h3.rest;clear h3;refine Hid.out ?_)
 refine zbj ?_;have aa:=zbj K;clear K
 go_wp2_with first
  | (go_at_call 223;refine(H4.out _ _ (pB HS.out) K4.out).mono ?_;rintro e w5 ⟨rfl,h5⟩;have K5:=zbj h5;have m5:=h5.rest;clear h5 m3;refine Hid.out ?_)
  | (go_at_call 223;refine(H3.out _ (aE gf (.cells #[.int .u32 (B:Int),.int .i64 (wrap64 (E:Int)),.string ⟨#[]⟩,.string ⟨#[]⟩] 44 (0,0))*F) (pB HS.out) (K3.out.turn fun X m=>qB (by simp only[Zb,Zc,Zd,b9];ac_rfl))).mono ?_;rintro e w4 ⟨rfl,h4⟩;have K4:=zbj h4;clear h4)
 refine zbj ?_;go_wp2_with fail
 have K6:=K5.out.turn (w1:=(((((w5.setCell ⟨gf,2,none⟩ (.string ⟨I.toArray⟩)).setCell ⟨gf,3,none⟩ (.string ⟨J.toArray⟩)).setCell ⟨gf,0,none⟩ (.int .u32 (B:Int))).setCell ⟨gf,1,none⟩ (.int .i64 (wrap64 (E:Int)))).setCell ⟨gf,2,none⟩ (.string ⟨I.toArray⟩)).setCell ⟨gf,3,none⟩ (.string ⟨J.toArray⟩)) (F':=aE gf (.cells #[.int .u32 (B:Int),.int .i64 (wrap64 (E:Int)),.string ⟨I.toArray⟩,.string ⟨J.toArray⟩] 44 (0,0))*F) fun X m=>qB (by simp only[Zb,Zc,Zd,b9];ac_rfl);obtain⟨fs,z⟩:=QB;refine bodyPost_ret (results_cell_row rfl _ _ gf 44 #[.int .u32 (B:Int),.int .i64 (wrap64 (E:Int)),.string ⟨I.toArray⟩,.string ⟨J.toArray⟩] (0,0) _ rfl (Mod.heap (m:=K6.rest)) z rfl (by rw[KD];rfl)) rfl ?_;exact⟨rfl,K6.turn fun X m=>Mod.drop (A:=aE gf (.cells #[.int .u32 (B:Int),.int .i64 (wrap64 (E:Int)),.string ⟨I.toArray⟩,.string ⟨J.toArray⟩] 44 (0,0))) (m:=Mod.to (m:=m) (by ac_rfl))⟩
end Go.Proofs.YtdfppjcaelghhaaGreatDoor
namespace Go.Sl
open Go
def fE {α:Type}(one:fK->α×fK):Nat->fK->List α×fK
 | 0,s=>([],s)
 | n+1,s=>if s.2 then ([],s)else ((one s).1::(fE one n (one s).2).1,(fE one n (one s).2).2)
theorem AT {α:Type}(one:fK->α×fK)(n:Nat){s:fK}(h:s.2=true):fE one n s=([],s):=by
 cases n with
 | zero=>rfl
 | succ n=>simp[fE,h]
theorem il {α:Type}(one:fK->α×fK)(n:Nat){s:fK}(h:s.2=false):fE one (n+1) s=((one s).1::(fE one n (one s).2).1,(fE one n (one s).2).2):=by simp[fE,h]
def kf:Nat:=18446744073709551615
theorem Pr:(18446744073709551615:Int)=(kf:Int):=rfl
def fF {α:Type}(one:fK->α×fK)(s:fK):List α×fK:=fE one (fJ kf s).1 (fJ kf s).2
theorem G2 {most:Nat}{s:fK}(h:(fJ most s).2.2=false):s.2=false/\(fJ most s).2.1.length+1<=s.1.length:=by
 unfold fJ at h ⊢;simp only[y9,Bool.not_eq_false',Yg,decide_eq_true_eq]at h;have y:=LA h.2.1;have z:=zt s.1;refine⟨h.1,?_⟩;show (s.1.drop (jr s.1).2.1).length+1≤_;rw[ZF];omega
theorem mr {s:fK}(h:(pt s).2.2=false):s.2=false/\(pt s).2.1.length<=s.1.length:=by
 unfold pt at h ⊢;simp only[y9]at h;refine⟨h.1,?_⟩;show (s.1.drop (qu s.1).2.1).length≤_;rw[ZF];omega
theorem NT {s:fK}(h:(fH s).2.2=false):(fH s).2.1.length+1<=s.1.length:=(G2 (most:=Pi) h).2
theorem P1 {s:fK}(h:(fC s).2.2=false):(fC s).2.1.length+1<=s.1.length:=by
 unfold fC at h ⊢;simp only at h ⊢;obtain⟨y,E⟩:=mr h;obtain⟨z,I⟩:=mr y;obtain⟨B,J⟩:=G2 z;have K:=NT B;omega
theorem iE (most:Nat)(s:fK):(fJ most s).2.1.length<=s.1.length:=by
 show (s.1.drop (jr s.1).2.1).length≤_;rw[ZF];omega
end Go.Sl
namespace Go.Proofs.YtdfppjcaelghhaaGreatDoor
open Go.RowKit Go.Sl
attribute [local go_sem] ab bj bh bd
instance Oh:yH Tryz.prog 40 44 4 48:=⟨Tryz.underlying40,by kernel_rfl⟩
instance OA:wl Tryz.prog 128 42 4:=⟨Tryz.underlying128,by kernel_rfl⟩
theorem qq (f:bi):∀u∈f.cells,u.oneCell'=true:=by
 intro u y;simp only[bi.cells,Zu,XB,or_false]at y;rcases y with rfl | rfl | rfl | rfl <;> rfl
theorem iU (g:Nat)(s:fK)(G F:ba)(hs:Sub F G)(w w0:World)(h:Rd g s G F w0 w) :
 Calls Tryz.prog 157 #[ap g,.func (.func 158) #[ap g] #[]] w fun e w'=>∃A' c',e=.returned (.slice A' (fF fC s).1.length c')/\(fF fC s).1.length<=s.1.length+1/\Rd g (fF fC s).2 G (ar 44 4 (.slice A' (fF fC s).1.length c') (fF fC s).1.length (List.flatMap bi.cells (fF fC s).1)*F) w0 w':=by
 have hL:s.1.length<=1000000000:=by obtain⟨_,_,_,e1,_,e2,_⟩:=h;omega
 obtain⟨L,aa⟩:∃L,s.1.length=L:=⟨_,rfl⟩;have HN:=zbj (fQ g 18446744073709551615 kf Pr s G F hs w w0 h);have ag:=iE kf s;have HP:Hid (fF fC s=fE fC (fJ kf s).1 (fJ kf s).2):=rfl;have aj:(fJ kf s).1<18446744073709551616:=zu s.1;rw[aa]at ag hL ⊢;generalize fJ kf s=z at *;obtain⟨v,s1⟩:=z;simp only at ag HP aj;have HS:=zbj hs;obtain⟨P,ae⟩:∃P,fF fC s=P:=⟨_,rfl⟩;rw[ae]at HP ⊢;clear ae aa hs h;go_enter Tryz.func157,Tryz.ntmps157
 go_wp2_with (go_at_call 161;refine HN.out.mono ?_;rintro e w1 ⟨rfl,h1⟩;refine Hid.out ?_)
 obtain⟨v0,az⟩:∃v0,v0=v:=⟨_,rfl⟩;have H1:=zbj h1;clear h1 HN;refine zbj ?_;go_wp2_with fail
 go_loopg [4,5] v (fun gk vl vn wr=>∃(q:Nat)(V:fK)(B:List bi)(E:Nat)(O:Option Addr)(U:Nat),gk=q/\q<=v/\vn=.int .u64 (q:Int)/\vl=.slice O E U/\Hid (B.length=E)/\Hid (P=(B++(fE fC q V).1,(fE fC q V).2))/\Hid ((V.2=false->E+V.1.length<=L)/\(V.2=true->E<=L+1))/\E<=L+1/\Hid (Rd g V G (ar 44 4 (.slice O E U) E (List.flatMap bi.cells B)*F) w0 wr))
 case atStart =>
  refine⟨v,s1,[],0,none,0,rfl,Zm _,rfl,rfl,rfl,by show _=_;rw[HP.out];rfl,⟨fun _=>by omega,fun _=>by omega⟩,oMg,H1.out.turn fun X m=>Mod.to (m:=ey (e:=44) (size:=4) m) (by show _=X*(ar 44 4 (.slice none 0 0) 0 []*F);ac_rfl)⟩
 case round =>
  obtain⟨q,V,B,E,O,U,au,ay,rfl,rfl,I,M,Hb,ah,Y⟩:=hrel;obtain⟨b,Z⟩:=V;by_cases hq:q=0
  ·subst hq
   have J:Hid (P=(B,(b,Z))):=by show _=_;rw[M.out];simp[fE]
   have mR:=Y.out.rest;go_wp2_with fail
   go_ret
   exact⟨O,U,by rw[J.out,I.out];rfl,by rw[J.out];show B.length≤_;rw[I.out];exact ah,by rw[J.out,I.out];exact Y.out⟩
  ·obtain⟨K,rfl⟩:∃K,q=K+1:=⟨q-1,oMg⟩
   have av:(0:Int)<((K+1:Nat):Int):=oMg
   have ax:0<K+1:=oMg
   obtain⟨Ax,nx,cx,x1,x2,x3,x4,mx⟩:=Y.out;simp only at mx
   cases Z with
   | true =>
     have J:Hid (P=(B,(b,true))):=by show _=_;rw[M.out,AT _ _ rfl,ZH]
     clear x1 x2 x3 x4;go_wp2_with fail
     go_ret
     exact⟨O,U,by rw[J.out,I.out];rfl,by rw[J.out];show B.length≤_;rw[I.out];exact ah,by rw[J.out,I.out];exact Y.out⟩
   | false =>
     have J:Hid (P=(B++[(fC (b,false)).1]++(fE fC K (fC (b,false)).2).1,(fE fC K (fC (b,false)).2).2)):=by show _=_;rw[M.out,il _ _ rfl,Zr];rfl
     have hu:=fun h=>P1 (s:=(b,false)) h;have af:=Hb.out.1 rfl;simp only at hu af;have HO:=zbj (PP g (b,false) G (ar 44 4 (.slice O E U) E (List.flatMap bi.cells B)*F) (pB HS.out) wr w0 Y.out);generalize fC (b,false)=y at *;obtain⟨f,s2⟩:=y;simp only at hu J HO;have ai:Hid ((s2.2=false->E+1+s2.1.length<=L)/\(s2.2=true->E+1<=L+1)):=⟨fun h=>by have:=hu h;omega,fun _=>by omega⟩;have ak:E<=L:=oMg
     clear x1 x2 x3 x4 hu af Y M Hb
     go_wp2_with first
      | (go_at_call 158;refine HO.out.mono ?_;rintro e w3 ⟨rfl,h3⟩;have H3:=zbj h3;clear h3 mx;refine Hid.out ?_)
     obtain⟨Ay,ny,cy,y1,y2,y3,y4,my⟩:=H3.out;refine zbj ?_
     go_wp2_with first
      | (refine qM (t:=40) (e:=44) (size:=4) (bytes:=48) (cs:=#[.int .u32 (f.num:Int),.int .i64 f.level,.string f.least,.string f.most]) rfl rfl rfl rfl (by decide) ?_)
      | (at_builtin;refine mf (w0:=w0) ?_;intro mw;have mq:=Mod.pull (m:=mw) (ar 44 4 (.slice O E U) E (B.flatMap bi.cells));refine i9 (t:=40) (size:=4) (v:=.slice O E U) (n:=E) (xs:=B.flatMap bi.cells) (k:=1) (c:=1) (A:=⟨w3.heap.size,0,none⟩) (news:=f.cells) rfl rfl mq rfl rfl (ce rfl rfl) (by decide) (qq f) (by unfold maxLen;omega) oMg ?_;clear mw mq;intro A5 c5 w5 m5)
     have m6:=m5;rw[show B.flatMap bi.cells++f.cells=(B++[f]).flatMap bi.cells by simp]at m6;have e1:(K+1:Nat)=K+1:=rfl;go_roundg K
     case measure=>omega
     case rel=>exact⟨K,s2,B++[f],E+1,A5,c5,rfl,oMg,by go_num,rfl,by show _=_;rw[Ze,I.out];rfl,J,ai,oMg,⟨Ay,ny,cy,y1,y2,y3,y4,Mod.keep m6⟩⟩
theorem iV (g:Nat)(s:fK)(G F:ba)(hs:Sub F G)(w w0:World)(h:Rd g s G F w0 w) :
 Calls Tryz.prog 159 #[ap g,.func (.func 160) #[ap g] #[]] w fun e w'=>∃A' c',e=.returned (.slice A' (fF fH s).1.length c')/\(fF fH s).1.length<=s.1.length+1/\Rd g (fF fH s).2 G (ar 42 1 (.slice A' (fF fH s).1.length c') (fF fH s).1.length (List.map (fun v:Nat=>Value.int .u32 (v:Int)) (fF fH s).1)*F) w0 w':=by
 have hL:s.1.length<=1000000000:=by obtain⟨_,_,_,e1,_,e2,_⟩:=h;omega
 obtain⟨L,aa⟩:∃L,s.1.length=L:=⟨_,rfl⟩;have HN:=zbj (fQ g 18446744073709551615 kf Pr s G F hs w w0 h);have ag:=iE kf s;have HP:Hid (fF fH s=fE fH (fJ kf s).1 (fJ kf s).2):=rfl;have aj:(fJ kf s).1<18446744073709551616:=zu s.1;rw[aa]at ag hL ⊢;generalize fJ kf s=z at *;obtain⟨v,s1⟩:=z;simp only at ag HP aj;have HS:=zbj hs;obtain⟨P,ae⟩:∃P,fF fH s=P:=⟨_,rfl⟩;rw[ae]at HP ⊢;clear ae aa hs h;go_enter Tryz.func159,Tryz.ntmps159
 go_wp2_with (go_at_call 161;refine HN.out.mono ?_;rintro e w1 ⟨rfl,h1⟩;refine Hid.out ?_)
 obtain⟨v0,az⟩:∃v0,v0=v:=⟨_,rfl⟩;have H1:=zbj h1;clear h1 HN;refine zbj ?_;go_wp2_with fail
 go_loopg [4,5] v (fun gk vl vn wr=>∃(q:Nat)(O:fK)(B:List Nat)(I:Nat)(U:Option Addr)(V:Nat),gk=q/\q<=v/\vn=.int .u64 (q:Int)/\vl=.slice U I V/\Hid (B.length=I)/\Hid (P=(B++(fE fH q O).1,(fE fH q O).2))/\Hid ((O.2=false->I+O.1.length<=L)/\(O.2=true->I<=L+1))/\I<=L+1/\Hid (Rd g O G (ar 42 1 (.slice U I V) I (List.map (fun v:Nat=>Value.int .u32 (v:Int)) B)*F) w0 wr))
 case atStart =>
  refine⟨v,s1,[],0,none,0,rfl,Zm _,rfl,rfl,rfl,by show _=_;rw[HP.out];rfl,⟨fun _=>by omega,fun _=>by omega⟩,oMg,H1.out.turn fun X m=>Mod.to (m:=ey (e:=42) (size:=1) m) (by show _=X*(ar 42 1 (.slice none 0 0) 0 []*F);ac_rfl)⟩
 case round =>
  obtain⟨q,O,B,I,U,V,au,ay,rfl,rfl,E,M,Hb,ah,Y⟩:=hrel;obtain⟨b,Z⟩:=O;by_cases hq:q=0
  ·subst hq
   have J:Hid (P=(B,(b,Z))):=by show _=_;rw[M.out];simp[fE]
   have mR:=Y.out.rest;go_wp2_with fail
   go_ret
   exact⟨U,V,by rw[J.out,E.out];rfl,by rw[J.out];show B.length≤_;rw[E.out];exact ah,by rw[J.out,E.out];exact Y.out⟩
  ·obtain⟨K,rfl⟩:∃K,q=K+1:=⟨q-1,oMg⟩
   have av:(0:Int)<((K+1:Nat):Int):=oMg
   have ax:0<K+1:=oMg
   obtain⟨Ax,nx,cx,x1,x2,x3,x4,mx⟩:=Y.out;simp only at mx
   cases Z with
   | true =>
     have J:Hid (P=(B,(b,true))):=by show _=_;rw[M.out,AT _ _ rfl,ZH]
     clear x1 x2 x3 x4;go_wp2_with fail
     go_ret
     exact⟨U,V,by rw[J.out,E.out];rfl,by rw[J.out];show B.length≤_;rw[E.out];exact ah,by rw[J.out,E.out];exact Y.out⟩
   | false =>
     have J:Hid (P=(B++[(fH (b,false)).1]++(fE fH K (fH (b,false)).2).1,(fE fH K (fH (b,false)).2).2)):=by show _=_;rw[M.out,il _ _ rfl,Zr];rfl
     have hu:=fun h=>NT (s:=(b,false)) h;have af:=Hb.out.1 rfl;simp only at hu af;have HO:=zbj (gP g (b,false) G (ar 42 1 (.slice U I V) I (List.map (fun v:Nat=>Value.int .u32 (v:Int)) B)*F) (pB HS.out) wr w0 Y.out);generalize fH (b,false)=y at *;obtain⟨f,s2⟩:=y;simp only at hu J HO;have ai:Hid ((s2.2=false->I+1+s2.1.length<=L)/\(s2.2=true->I+1<=L+1)):=⟨fun h=>by have:=hu h;omega,fun _=>by omega⟩;have ak:I<=L:=oMg
     clear x1 x2 x3 x4 hu af Y M Hb
     go_wp2_with first
      | (go_at_call 160;refine HO.out.mono ?_;rintro e w3 ⟨rfl,h3⟩;have H3:=zbj h3;clear h3 mx;refine Hid.out ?_)
     obtain⟨Ay,ny,cy,y1,y2,y3,y4,my⟩:=H3.out;refine zbj ?_
     go_wp2_with first
      | (at_builtin;refine cS (v:=.slice U I V) (A:=some ⟨w3.heap.size,0,none⟩) (k:=1) (c:=1) (news:=[.int .u32 (f:Int)]) (r:=ce rfl rfl) rfl rfl zbk rfl rfl (by simp[Value.oneCell']) (by unfold maxLen;omega) oMg ?_;intro A5 c5 w5 m5)
     have m6:=m5;rw[show (B.map fun v:Nat=>Value.int .u32 (v:Int))++[.int .u32 (f:Int)]=(B++[f]).map fun v:Nat=>Value.int .u32 (v:Int) by simp]at m6;have e1:(K+1:Nat)=K+1:=rfl;go_roundg K
     case measure=>omega
     case rel=>exact⟨K,s2,B++[f],I+1,A5,c5,rfl,oMg,by go_num,rfl,by show _=_;rw[Ze,E.out];rfl,J,ai,oMg,⟨Ay,ny,cy,y1,y2,y3,y4,Mod.keep m6⟩⟩
end Go.Proofs.YtdfppjcaelghhaaGreatDoor
namespace Go.Sl
open Go
theorem Ik:∀(n:Nat),∃(y:List UInt8)(x:UInt8),ca n=y++[x]/\(∀c∈y,¬c.toNat<128)/\x.toNat<128/\x.toNat*128 ^ y.length<=n/\(y≠[]->x.toNat≠0)/\ky (ca n)=n:=by
 intro n
 induction n using Nat.strongRecOn with
 | ind n O =>
   by_cases h:n<128
   ·have e:(UInt8.ofNat n).toNat=n:=by rw[UInt8.toNat_ofNat'];omega
    refine⟨[],UInt8.ofNat n,nR h,(fun c z=>by cases z),oMg,by simp[e],by simp,?_⟩;rw[nR h];simp only[ky,e];omega
   ·obtain⟨y,x,E,J,K,U,M,B⟩:=O (n / 128) oMg
    have e:(UInt8.ofNat (n%128+128)).toNat=n%128+128:=by rw[UInt8.toNat_ofNat'];omega
    refine⟨UInt8.ofNat (n%128+128)::y,x,by rw[vZ h,E];rfl,?_,K,?_,?_,?_⟩
    ·intro c z
     rcases Zu.1 z with rfl | z
     ·rw[e];omega
     ·exact J c z
    ·rw[List.length_cons,Nat.pow_succ,<-Nat.mul_assoc]
     omega
    ·intro _
     by_cases I:y=[]
     ·subst I
      rw[E]at B;simp only[List.nil_append,ky]at B;omega
     ·exact M I
    ·rw[vZ h]
     simp only[ky,e,B];omega
theorem B9 {n:Nat}(hn:n<18446744073709551616)(r:List UInt8):jr (ca n++r)=(n,(ca n).length,0):=by
 have K:=cN hn;obtain⟨y,x,B,M,O,U,V,Y⟩:=Ik n;have hl:(ca n).length=y.length+1:=by rw[B];simp
 have Z:sa (ca n++r)=some y.length:=by
  unfold sa;rw[Zk]
  have hx:((ca n++r).take 10)[y.length]?=some x:=by
   rw[Xp,if_pos oMg,B,Zr,Z7 (Zm _),zae];rfl
  obtain⟨z,E⟩:=Yd.1 hx;refine⟨z,by rw[E];exact decide_eq_true O,fun j I=>?_⟩
  have J:((ca n++r).take 10)[j]?=some y[j]:=by
   rw[Xp,if_pos oMg,B,Zr,Yz I];exact Zg I
  obtain⟨p1,p2⟩:=Yd.1 J;rw[p2];simpa using M _ (Zq I)
 have hd:(ca n++r).getD y.length 0=x:=by
  rw[Zw,B,Zr,Z7 (Zm _),zae];rfl
 unfold jr;rw[Z];simp only[hd];rw[if_neg]
 ·rw[<-hl,XC,Y]
 ·rintro(⟨z,E⟩ | ⟨z,E⟩)
  ·exact V (by intro h;rw[h]at z;simp at z) E
  ·rw[z]at U
   have:2*128 ^ 9<=x.toNat*128 ^ 9:=Xw _ oMg;omega
theorem gT {n most:Nat}(hn:n<18446744073709551616)(z:n<=most)(r:List UInt8)(y:Bool):fJ most (ca n++r,y)=(n,(r,y)):=by
 unfold fJ;simp only[B9 hn r];rw[za1];simp[z]
theorem gU {n:Nat}(hn:n<4294967296)(r:List UInt8)(y:Bool):fH (ca n++r,y)=(n,(r,y)):=by
 unfold fH;rw[gT (most:=Pi) oMg (by unfold Pi;omega)];simp only[Nat.mod_eq_of_lt hn]
theorem Gi {s:ByteArray}(B:s.size<=1000000)(r:List UInt8):qu (fk s++r)=(s.data.toList,(fk s).length,0):=by
 have e:s.data.toList.length=s.size:=by rw[Array.length_toList];rfl
 have z:jr (fk s++r)=(s.size,(ca s.size).length,0):=by
  unfold fk;rw[Zr,B9 oMg]
 have y:(fk s).length=(ca s.size).length+s.size:=by unfold fk;rw[Ze,e]
 unfold qu;simp only[z];rw[if_neg (by simp),if_neg (by rw[Ze,y];omega)];refine Prod.ext ?_ (Prod.ext ?_ rfl)
 ·show ((fk s++r).drop (ca s.size).length).take s.size=_
  unfold fk;rw[Zr,za1,<-e,XC]
 ·show (ca s.size).length+s.size=_
  rw[y]
theorem xT {s:ByteArray}(z:s.size<=1000000)(r:List UInt8)(y:Bool):pt (fk s++r,y)=(s.data.toList,(r,y)):=by
 unfold pt;simp only[Gi z r];rw[za1];simp
theorem PJ {f:bi}(I:oC f=true)(hn:f.num<4294967296)(r:List UInt8)(z:Bool):fC (lI f++r,z)=(f,(r,z)):=by
 obtain⟨num,lv,a,b⟩:=f;have y:=I;unfold oC Bu mj at y;simp only[Yg,decide_eq_true_eq]at y;obtain⟨⟨⟨⟨B,E⟩,_,K⟩,_,M⟩,_⟩:=y;have e:lI ⟨num,lv,a,b⟩++r=ca num++(ca lv.toNat++(fk a++(fk b++r))):=by unfold lI;simp only[Zr]
 have J:Go.RowKit.wrap64 ((lv.toNat:Nat):Int)=lv:=by unfold Go.RowKit.wrap64;omega
 unfold fC;rw[e];simp only[gU hn,gT (n:=lv.toNat) (most:=4) oMg oMg,xT (s:=a) oMg,xT (s:=b) oMg,J]
theorem li {α:Type}(one:fK->α×fK)(G:α->List UInt8):∀(l:List α)(r:List UInt8),(∀x∈l,∀r,one (G x++r,false)=(x,(r,false)))->fE one l.length (l.flatMap G++r,false)=(l,(r,false))
 | [],r,_=>rfl
 | x::l,r,h=>by
   have z:=h x (Zj ..);rw[List.length_cons,il _ _ rfl,Zp,Zr,z];simp only[li one G l r fun y B=>h y (Zh _ B)]
theorem la {α:Type}(one:fK->α×fK)(G:α->List UInt8)(l:List α)(r:List UInt8)(y:l.length<18446744073709551616)(h:∀x∈l,∀r,one (G x++r,false)=(x,(r,false))):fF one (ca l.length++(l.flatMap G++r),false)=(l,(r,false)):=by
 unfold fF;rw[gT (most:=kf) y (by unfold kf;omega)];exact li one G l r h
end Go.Sl
namespace Go.Proofs.YtdfppjcaelghhaaGreatDoor
open Go Go.Sl
structure yC (x:db):Prop where
 fine:kh x.added=true
 nums:∀f∈x.added,f.num<4294967296
 Mb:∀v∈x.removed,v<4294967296
 JP:x.added.length<18446744073709551616
 JQ:x.removed.length<18446744073709551616
 al:x.al<4294967296
 next:x.next<4294967296
 seq:x.seq<18446744073709551616
def gy (b:List UInt8):db×fK :=
 let a:=fF fC (b,false);let r:=fF fH a.2;let j:=fH r.2;let x:=fH j.2;let q:=fJ kf x.2
 (⟨a.1,r.1,j.1,x.1,q.1⟩,q.2)
def PX (b:List UInt8):Option db:=if (gy b).2.2=true\/kh (gy b).1.added=false\/de (gy b).1≠b then none else some (gy b).1
theorem PH {x:db}(h:yC x):gy (de x)=(x,([],false)):=by
 obtain⟨B,z,jn,nx,y⟩:=x;obtain⟨E,I,J,K,M,O,U,V⟩:=h;simp only at E I J K M O U V;have Z:∀f∈B,oC f=true:=Xx.1 E;have e1:=la fC lI B (ca z.length++(z.flatMap ca++(ca jn++(ca nx++ca y)))) K fun f Y r=>PJ (Z f Y) (I f Y) r false;have e2:=la fH ca z (ca jn++(ca nx++ca y)) M fun v hv r=>gU (J v hv) r false
 have e5:fJ kf (ca y,false)=(y,([],false)):=by
  have:=gT (most:=kf) V (by unfold kf;omega) [] false
  rwa [ZH]at this
 unfold gy de;simp only;rw[e1];simp only;rw[e2];simp only;rw[gU O];simp only;rw[gU U];simp only;rw[e5]
theorem PY {x:db}(h:yC x):PX (de x)=some x:=by
 unfold PX;rw[PH h];simp[h.fine]
theorem QQ {b:List UInt8}{x:db}(h:PX b=some x):de x=b/\kh x.added=true:=by
 unfold PX at h
 split at h
 ·cases h
 ·rename_i hc
  injection h with h;subst h;simp only[not_or]at hc;exact⟨by simpa using hc.2.2,by simpa using hc.2.1⟩
theorem iJ {α:Type}{one:fK->α×fK}{P:α->Prop}(h:∀s,P (one s).1):∀(n:Nat)(s:fK),∀x∈(fE one n s).1,P x
 | 0,s,x,y=>by cases y
 | n+1,s,x,y=>by
   unfold fE at y
   split at y
   ·cases y
   ·rcases Zu.1 y with rfl | y
    ·exact h s
    ·exact iJ h n _ x y
theorem PL (s:fK):(pt s).2.1.length<=s.1.length:=by
 show (s.1.drop (qu s.1).2.1).length≤_;rw[ZF];omega
theorem Qy (s:fK):(fC s).2.1.length<=s.1.length:=by
 unfold fC;simp only;exact Yl (PL _) (Yl (PL _) (Yl (iE _ _) (iE _ _)))
theorem PK {α:Type}{one:fK->α×fK}(h:∀s,(one s).2.1.length<=s.1.length):∀(n:Nat)(s:fK),(fE one n s).2.1.length<=s.1.length
 | 0,s=>Zm _
 | n+1,s=>by
   unfold fE
   split
   ·exact Zm _
   ·exact Yl (PK h n _) (h s)
theorem Qz {α:Type}{one:fK->α×fK}(h:∀s,(one s).2.1.length<=s.1.length)(s:fK):(fF one s).2.1.length<=s.1.length:=Yl (PK h _ _) (iE _ _)
theorem iN (s:fK):(fH s).1<4294967296:=zbe _ oMg
theorem Qj (s:fK):(fC s).1.num<4294967296:=iN s
theorem QK (most:Nat)(s:fK):(fJ most s).1<18446744073709551616:=zu s.1
theorem PI (b:List UInt8):(∀f∈(gy b).1.added,f.num<4294967296)/\(∀v∈(gy b).1.removed,v<4294967296)/\(gy b).1.al<4294967296/\(gy b).1.next<4294967296/\(gy b).1.seq<18446744073709551616:=by
 unfold gy;simp only;refine⟨?_,?_,iN _,iN _,QK _ _⟩
 ·unfold fF
  exact iJ (P:=fun f:bi=>f.num<4294967296) Qj _ _
 ·unfold fF
  exact iJ (P:=fun v:Nat=>v<4294967296) iN _ _
open Go.RowKit Go.Sl
attribute [local go_sem] ab bj bh bd tu
theorem xh (A B:Option Addr)(n k c d:Nat)(xs y:List UInt8)(w w0:World)(S:ba)(m:Mod w w0 S)(E:bk S A n (b7 xs))(I:bk S B k (b7 y)) :
 Calls Tryz.prog 162 #[.slice A n c,.slice B k d] w fun e z=>e=.returned (.bool (decide (xs=y)))/\Mod z w0 S:=by
 go_enter Tryz.func162,Tryz.ntmps162
 go_wp2_with fail
 go_ret
 exact⟨by by_cases h:xs=y <;> simp[h],m⟩
def gK (L:xb)(x:db):ba:=ar 44 4 (.slice L.aA x.added.length L.aC) x.added.length (x.added.flatMap bi.cells)*ar 42 1 (.slice L.rA x.removed.length L.rC) x.removed.length (x.removed.map fun v:Nat=>Value.int .u32 (v:Int))
def gD:Array Value:=#[.slice none 0 0,.slice none 0 0,.int .u32 0,.int .u32 0,.int .u64 0]
def QC (S:ba)(w0:World)(e:Ending)(y:World):Option db->Prop
 | none=>e=.returned (.tuple #[.agg gD,.int .i64 4])/\Mod y w0 S
 | some x=>∃L,e=.returned (.tuple #[.agg (jW L x),.int .i64 0])/\x.added.length<=L.aC/\x.removed.length<=L.rC/\x.added.length<=1100000/\x.removed.length<=1100000/\Mod y w0 (gK L x*S)
theorem gN:∃y,Tryz.prog.underlying 130=some (.struct y):=⟨_,Tryz.underlying130⟩
theorem gB:(Tryz.prog.info? 130).map (·.size)=some 5:=kRf
theorem fD {P:Program}{y:Func}{p u:Tmp}{ty:TypeId}(h:y.results=#[.cell p ty,.tmp u])(tmps:Array Value)(w:World)(g:Nat)(t:TypeId)(cs:Array Value)(fr:Nat×Nat)(d:TypeDesc)
 (hp:tmps.getD p undef=.pointer (some ⟨g,0,none⟩)) (z:w.heap[g]?=some (.cells cs t fr))
 (E:P.underlying ty=some d) (hd:(match d with | .struct _ | .array _ _=>true | _=>false)=true) (B:(P.info? ty).map (·.size)=some cs.size) :
 (results y tmps).run P w=.ok (.tuple #[.agg cs,tmps.getD u undef]) w:=by
 rw[results_cell_tmp h,hp];simp[asAddr,run_loadVar_row w g t ty cs fr d z E hd B]
theorem QN (aA:Option Addr)(E aC:Nat)(rA:Option Addr)(I rC:Nat)(y:List bi)(z:List Nat)(jn nx B:Nat)(J:y.length=E)(K:z.length=I)(w w0:World)(S:ba)(m:Mod w w0 S)(r:kW S ⟨aA,aC,rA,rC⟩ ⟨y,z,jn,nx,B⟩) :
 Calls Tryz.prog 121 #[.agg #[.slice aA E aC,.slice rA I rC,.int .u32 (jn:Int),.int .u32 (nx:Int),.int .u64 (B:Int)]] w (ts ⟨y,z,jn,nx,B⟩ S w0):=by
 subst J K;exact qo ⟨aA,aC,rA,rC⟩ ⟨y,z,jn,nx,B⟩ w w0 S m r
theorem Pp {w w0:World}{e size:Nat}{A:Option Addr}{n c:Nat}{xs:List Value}{F:ba}(m:Mod w w0 (ar e size (.slice A n c) n xs*F)):n<=c:=by
 obtain⟨A',c',y,z⟩:=nP m;injection y with _ _ B;omega
theorem P7 (A:Option Addr)(n c:Nat)(b:List UInt8)(w w0:World)(S:ba)(m:Mod w w0 S)(r:bk S A n (b7 b))(hn:n<=1050000)(hc:n<=c) :
 Calls Tryz.prog 110 #[.slice A n c] w fun e w'=>QC S w0 e w' (PX b):=by
 have hl:=fp m r;rw[fg]at hl;obtain⟨z,hz⟩:∃z,PX b=z:=⟨_,rfl⟩;have ah:=PI b;obtain⟨K,s1,aj⟩:∃v1 s1,fF fC (b,false)=(v1,s1):=⟨_,_,rfl⟩;obtain⟨U,s2,ay⟩:∃v1 s2,fF fH s1=(v1,s2):=⟨_,_,rfl⟩;obtain⟨jn,s3,az⟩:∃v1 s3,fH s2=(v1,s3):=⟨_,_,rfl⟩;obtain⟨nx,s4,aB⟩:∃v1 s4,fH s3=(v1,s4):=⟨_,_,rfl⟩;obtain⟨sq,b5,J,aD⟩:∃v1 b5 J,fJ kf s4=(v1,(b5,J)):=⟨_,_,_,rfl⟩
 have aO:s1.1.length<=n:=by
  have h:=Qz Qy (b,false);rw[aj]at h;simp only[hl]at h;exact h
 have aF:gy b=(⟨K,U,jn,nx,sq⟩,(b5,J)):=by unfold gy;simp only[aj,ay,az,aB,aD]
 have aM:z=if J=true\/kh K=false\/de ⟨K,U,jn,nx,sq⟩≠b then none else some ⟨K,U,jn,nx,sq⟩:=by rw[<-hz];unfold PX;rw[aF]
 rw[aF]at ah;rw[hz];have HZ:=zbj aM;have aI:=zbj ah;have H1:=zbj (fun(g:Nat)(u:World)(Z:ba)(hh:Sub Z S)(hu:Rd g (b,false) S Z w0 u)=>iU g (b,false) S Z hh u w0 hu);have H2:=zbj (fun(g:Nat)(u:World)(Z:ba)(hh:Sub Z S)(hu:Rd g s1 S Z w0 u)=>iV g s1 S Z hh u w0 hu);have H3:=zbj (fun(g:Nat)(u:World)(Z:ba)(hh:Sub Z S)(hu:Rd g s2 S Z w0 u)=>gP g s2 S Z hh u w0 hu);have H4:=zbj (fun(g:Nat)(u:World)(Z:ba)(hh:Sub Z S)(hu:Rd g s3 S Z w0 u)=>gP g s3 S Z hh u w0 hu);have H5:=zbj (fun(g:Nat)(u:World)(Z:ba)(hh:Sub Z S)(hu:Rd g s4 S Z w0 u)=>fQ g 18446744073709551615 kf Pr s4 S Z hh u w0 hu);rw[aj]at H1;rw[ay]at H2;rw[az]at H3;rw[aB]at H4;rw[aD]at H5;obtain⟨B,av⟩:∃B,K.length=B:=⟨_,rfl⟩;obtain⟨E,ax⟩:∃E,U.length=E:=⟨_,rfl⟩;simp only[av,hl]at H1;simp only[ax]at H2;have aa:=zbj av;have ae:=zbj ax;clear hz aM ah aF aj ay az aB aD av ax;obtain⟨y,au⟩:∃y,w.heap.size=y:=⟨_,rfl⟩;obtain⟨gr,ak⟩:∃gr,y+1=gr:=⟨_,rfl⟩;have mA:Mod ((w.alloc (.cells gD 130)).alloc (.cells #[.slice A n c,.bool false] 223)) w0 (aE (w.heap.size+1) (.cells #[.slice A n c,.bool false] 223 (0,0))*(aE w.heap.size (.cells gD 130 (0,0))*S)):=zbk;rw[au,ak]at mA;have K0:Hid (Rd gr (b,false) S (aE y (.cells gD 130 (0,0))*S) w0 ((w.alloc (.cells gD 130)).alloc (.cells #[.slice A n c,.bool false] 223))):=⟨A,n,c,hl,hc,oMg,r,mA⟩;unfold gD at K0 mA;have R:=zbj r;clear r hl;go_enter Tryz.func110,Tryz.ntmps110
 have I:=True.intro
 go_wp2_with first
  | (go_at_call 157;clear I;refine(H1.out gr _ _ zbk K0.out).mono ?_;rintro e w1 ⟨M,O,rfl,aQ,k1⟩;have K1:=zbj k1;have m1:=k1.rest;clear k1 mA m;refine Hid.out ?_)
 have Hg:=zbj (And.intro au ak);clear au ak;refine zbj ?_;have I:=True.intro
 go_wp2_with first
  | (go_at_call 159;clear I;refine(H2.out gr _ (ar 44 4 (.slice M B O) B (K.flatMap bi.cells)*(aE y (.cells #[.slice M B O,.slice none 0 0,.int .u32 0,.int .u32 0,.int .u64 0] 130 (0,0))*S)) zbk (K1.out.turn fun X m=>qB (by simp only[Zb,Zc,b9];ac_rfl))).mono ?_;rintro e w2 ⟨V,Y,rfl,aR,k2⟩;have K2:=zbj k2;have m2:=k2.rest;clear k2 m1;refine Hid.out ?_)
 refine zbj ?_;have I:=True.intro
 go_wp2_with first
  | (go_at_call 161;clear I;refine(H5.out gr _ _ zbk K4.out).mono ?_;rintro e w5 ⟨rfl,k5⟩;have K5:=zbj k5;have m5:=k5.rest;clear k5 m2;refine Hid.out ?_)
  | (go_at_call 160;refine(H4.out gr _ _ zbk K3.out).mono ?_;rintro e w4 ⟨rfl,k4⟩;have K4:=zbj k4;clear k4)
  | (go_at_call 160;refine(H3.out gr _ (ar 42 1 (.slice V E Y) E (U.map fun v:Nat=>Value.int .u32 (v:Int))*(ar 44 4 (.slice M B O) B (K.flatMap bi.cells)*(aE y (.cells #[.slice M B O,.slice V E Y,.int .u32 0,.int .u32 0,.int .u64 0] 130 (0,0))*S))) zbk (K2.out.turn fun X m=>qB (by simp only[Zb,Zc,Zd,b9];ac_rfl))).mono ?_;rintro e w3 ⟨rfl,k3⟩;have K3:=zbj k3;clear k3)
 obtain⟨A5,n5,c5,x1,x2,x3,x4,mm⟩:=K5.out;have M5:=zbj mm;clear x1 x2 x3 x4 m5;refine zbj ?_;go_wp2_with (go_at_call 121;refine Hid.out ?_)
 have m6:Mod (((w5.setCell ⟨y,2,none⟩ (.int .u32 (jn:Int))).setCell ⟨y,3,none⟩ (.int .u32 (nx:Int))).setCell ⟨y,4,none⟩ (.int .u64 (sq:Int))) w0 (aE gr (.cells #[.slice A5 n5 c5,.bool J] 223 (0,0))*(ar 42 1 (.slice V E Y) E (U.map fun v:Nat=>Value.int .u32 (v:Int))*(ar 44 4 (.slice M B O) B (K.flatMap bi.cells)*(aE y (.cells #[.slice M B O,.slice V E Y,.int .u32 (jn:Int),.int .u32 (nx:Int),.int .u64 (sq:Int)] 130 (0,0))*S)))) :=
  qB (by simp only[Zb,Zc,Zd,b9];ac_rfl)
 clear mm;generalize ((w5.setCell ⟨y,2,none⟩ (.int .u32 (jn:Int))).setCell ⟨y,3,none⟩ (.int .u32 (nx:Int))).setCell ⟨y,4,none⟩ (.int .u64 (sq:Int))=w6 at *;have aJ:=Pp (Mod.pull (m:=m6) (ar 44 4 (.slice M B O) B (K.flatMap bi.cells)));have aK:=Pp (Mod.pull (m:=m6) (ar 42 1 (.slice V E Y) E (U.map fun v:Nat=>Value.int .u32 (v:Int))));have ah:=aI.out;obtain⟨q1,q2,q3,q4,q5⟩:=ah
 have re:kW (aE gr (.cells #[.slice A5 n5 c5,.bool J] 223 (0,0))*(ar 42 1 (.slice V E Y) E (U.map fun v:Nat=>Value.int .u32 (v:Int))*(ar 44 4 (.slice M B O) B (K.flatMap bi.cells)*(aE y (.cells #[.slice M B O,.slice V E Y,.int .u32 (jn:Int),.int .u32 (nx:Int),.int .u64 (sq:Int)] 130 (0,0))*S)))) ⟨M,O,V,Y⟩ ⟨K,U,jn,nx,sq⟩:=by
  refine⟨⟨rfl,?_⟩,⟨rfl,?_⟩,q1,q2,?_,?_,q3,q4,q5,?_,?_⟩
  ·simp only[aa.out]
   exact ct (zbk:Sub _ (ar 44 4 (.slice M B O) B (K.flatMap bi.cells))) (fh (by decide))
  ·simp only[ae.out]
   exact zbk
  ·show K.length≤_;rw[aa.out];omega
  ·show U.length≤_;rw[ae.out];omega
  ·show K.length≤_;rw[aa.out];exact aJ
  ·show U.length≤_;rw[ae.out];exact aK
 have HP:=zbj (QN M B O V E Y K U jn nx sq aa.out ae.out w6 w0 _ m6 re);obtain⟨ed,af⟩:∃ed:db,ed=⟨K,U,jn,nx,sq⟩:=⟨_,rfl⟩;have aL:ed.added=K:=by rw[af]
 rw[<-af]at HP HZ;have aN:=zbj af;have aH:=zbj aL;clear re af aL q1 q2 q3 q4 q5 aI M5 H1 H2 H3 H4 H5 K0 K1 K2 K3 K4 K5;have aP:E<=1100000:=oMg
 clear aO;refine zbj ?_;refine HP.out.mono ?_;rintro e w7 (⟨hf,rfl,m7⟩ | ⟨hf,A7,c7,rfl,m7⟩)
 ·obtain rfl:z=none:=by rw[HZ.out];exact if_pos (.inr (.inl (by rw[<-aH.out];exact hf)))
  clear hf;cases J
  ·go_wp2_with fail
   have m8:Mod (((((w7.setCell ⟨y,0,none⟩ (.slice none 0 0)).setCell ⟨y,1,none⟩ (.slice none 0 0)).setCell ⟨y,2,none⟩ (.int .u32 0)).setCell ⟨y,3,none⟩ (.int .u32 0)).setCell ⟨y,4,none⟩ (.int .u64 0)) w0 (aE y (.cells #[.slice none 0 0,.slice none 0 0,.int .u32 0,.int .u32 0,.int .u64 0] 130 (0,0))*(aE gr (.cells #[.slice A5 n5 c5,.bool false] 223 (0,0))*(ar 42 1 (.slice V E Y) E (U.map fun v:Nat=>Value.int .u32 (v:Int))*(ar 44 4 (.slice M B O) B (K.flatMap bi.cells)*S)))):=qB (by simp only[Zb,Zc,Zd,b9] <;> ac_rfl);obtain⟨fs,hu⟩:=gN;refine bodyPost_ret (fD rfl _ _ y 130 #[.slice none 0 0,.slice none 0 0,.int .u32 0,.int .u32 0,.int .u64 0] (0,0) _ rfl (Mod.heap (m:=m8)) hu rfl (by rw[gB];rfl)) rfl ?_;exact⟨rfl,Mod.keep m8⟩
  ·go_wp2_with fail
   have m8:Mod (((((w7.setCell ⟨y,0,none⟩ (.slice none 0 0)).setCell ⟨y,1,none⟩ (.slice none 0 0)).setCell ⟨y,2,none⟩ (.int .u32 0)).setCell ⟨y,3,none⟩ (.int .u32 0)).setCell ⟨y,4,none⟩ (.int .u64 0)) w0 (aE y (.cells #[.slice none 0 0,.slice none 0 0,.int .u32 0,.int .u32 0,.int .u64 0] 130 (0,0))*(aE gr (.cells #[.slice A5 n5 c5,.bool true] 223 (0,0))*(ar 42 1 (.slice V E Y) E (U.map fun v:Nat=>Value.int .u32 (v:Int))*(ar 44 4 (.slice M B O) B (K.flatMap bi.cells)*S)))):=qB (by simp only[Zb,Zc,Zd,b9] <;> ac_rfl);obtain⟨fs,hu⟩:=gN;refine bodyPost_ret (fD rfl _ _ y 130 #[.slice none 0 0,.slice none 0 0,.int .u32 0,.int .u32 0,.int .u64 0] (0,0) _ rfl (Mod.heap (m:=m8)) hu rfl (by rw[gB];rfl)) rfl ?_;exact⟨rfl,Mod.keep m8⟩
 ·cases J
  ·have HE:=zbj (fun(u:World) mu=>xh A7 A (de ed).length n c7 c (de ed) b u w0 (ar 5 1 (.slice A7 (de ed).length c7) (de ed).length (b7 (de ed))*(aE gr (.cells #[.slice A5 n5 c5,.bool false] 223 (0,0))*(ar 42 1 (.slice V E Y) E (U.map fun v:Nat=>Value.int .u32 (v:Int))*(ar 44 4 (.slice M B O) B (K.flatMap bi.cells)*(aE y (.cells #[.slice M B O,.slice V E Y,.int .u32 (jn:Int),.int .u32 (nx:Int),.int .u64 (sq:Int)] 130 (0,0))*S))))) mu zbk (ct zbk R.out))
   by_cases ag:de ed=b
   ·have aG:z=some ed:=by
     rw[HZ.out];refine if_neg ?_;simp only[not_or];exact⟨by simp,by rw[<-aH.out,hf];simp,fun h=>h ag⟩
    subst aG;rw[decide_eq_true ag]at HE;clear ag hf;have I:=True.intro
    go_wp2_with first
     | (go_at_call 162;clear I;refine(HE.out _ m7).mono ?_;rintro e w8 ⟨rfl,ai⟩)
    have af:=aN.out;clear m7;have m7:=ai;clear ai;have hw:w8=w8:=rfl;have m8:Mod (((((w8.setCell ⟨y,0,none⟩ (.slice M B O)).setCell ⟨y,1,none⟩ (.slice V E Y)).setCell ⟨y,2,none⟩ (.int .u32 (jn:Int))).setCell ⟨y,3,none⟩ (.int .u32 (nx:Int))).setCell ⟨y,4,none⟩ (.int .u64 (sq:Int))) w0 (aE y (.cells #[.slice M B O,.slice V E Y,.int .u32 (jn:Int),.int .u32 (nx:Int),.int .u64 (sq:Int)] 130 (0,0))*(ar 5 1 (.slice A7 (de ed).length c7) (de ed).length (b7 (de ed))*(aE gr (.cells #[.slice A5 n5 c5,.bool false] 223 (0,0))*(ar 42 1 (.slice V E Y) E (U.map fun v:Nat=>Value.int .u32 (v:Int))*(ar 44 4 (.slice M B O) B (K.flatMap bi.cells)*S))))):=qB (by simp only[Zb,Zc,Zd,b9] <;> ac_rfl);obtain⟨fs,hu⟩:=gN;refine bodyPost_ret (fD rfl _ _ y 130 #[.slice M B O,.slice V E Y,.int .u32 (jn:Int),.int .u32 (nx:Int),.int .u64 (sq:Int)] (0,0) _ rfl (Mod.heap (m:=m8)) hu rfl (by rw[gB];rfl)) rfl ?_;subst af;refine⟨⟨M,O,V,Y⟩,?_,by show K.length≤_;rw[aa.out];exact aJ,by show U.length≤_;rw[ae.out];exact aK,by show K.length≤_;rw[aa.out];omega,by show U.length≤_;rw[ae.out];omega,?_⟩
    ·unfold jW;simp only[aa.out,ae.out];rfl
    ·unfold gK
     simp only[aa.out,ae.out];rw[bo];exact Mod.keep m8
   ·have aG:z=none:=by rw[HZ.out];exact if_pos (.inr (.inr ag))
    subst aG;rw[decide_eq_false ag]at HE;clear ag hf;have I:=True.intro
    go_wp2_with first
     | (go_at_call 162;clear I;refine(HE.out _ m7).mono ?_;rintro e w8 ⟨rfl,ai⟩)
    clear m7;have m7:=ai;clear ai;have m8:Mod (((((w8.setCell ⟨y,0,none⟩ (.slice none 0 0)).setCell ⟨y,1,none⟩ (.slice none 0 0)).setCell ⟨y,2,none⟩ (.int .u32 0)).setCell ⟨y,3,none⟩ (.int .u32 0)).setCell ⟨y,4,none⟩ (.int .u64 0)) w0 (aE y (.cells #[.slice none 0 0,.slice none 0 0,.int .u32 0,.int .u32 0,.int .u64 0] 130 (0,0))*(ar 5 1 (.slice A7 (de ed).length c7) (de ed).length (b7 (de ed))*(aE gr (.cells #[.slice A5 n5 c5,.bool false] 223 (0,0))*(ar 42 1 (.slice V E Y) E (U.map fun v:Nat=>Value.int .u32 (v:Int))*(ar 44 4 (.slice M B O) B (K.flatMap bi.cells)*S))))):=qB (by simp only[Zb,Zc,Zd,b9] <;> ac_rfl);obtain⟨fs,hu⟩:=gN;refine bodyPost_ret (fD rfl _ _ y 130 #[.slice none 0 0,.slice none 0 0,.int .u32 0,.int .u32 0,.int .u64 0] (0,0) _ rfl (Mod.heap (m:=m8)) hu rfl (by rw[gB];rfl)) rfl ?_;exact⟨rfl,Mod.keep m8⟩
  ·obtain rfl:z=none:=by rw[HZ.out];exact if_pos (.inl rfl)
   clear hf;go_wp2_with fail
   have m8:Mod (((((w7.setCell ⟨y,0,none⟩ (.slice none 0 0)).setCell ⟨y,1,none⟩ (.slice none 0 0)).setCell ⟨y,2,none⟩ (.int .u32 0)).setCell ⟨y,3,none⟩ (.int .u32 0)).setCell ⟨y,4,none⟩ (.int .u64 0)) w0 (aE y (.cells #[.slice none 0 0,.slice none 0 0,.int .u32 0,.int .u32 0,.int .u64 0] 130 (0,0))*(ar 5 1 (.slice A7 (de ed).length c7) (de ed).length (b7 (de ed))*(aE gr (.cells #[.slice A5 n5 c5,.bool true] 223 (0,0))*(ar 42 1 (.slice V E Y) E (U.map fun v:Nat=>Value.int .u32 (v:Int))*(ar 44 4 (.slice M B O) B (K.flatMap bi.cells)*S))))):=qB (by simp only[Zb,Zc,Zd,b9] <;> ac_rfl);obtain⟨fs,hu⟩:=gN;refine bodyPost_ret (fD rfl _ _ y 130 #[.slice none 0 0,.slice none 0 0,.int .u32 0,.int .u32 0,.int .u64 0] (0,0) _ rfl (Mod.heap (m:=m8)) hu rfl (by rw[gB];rfl)) rfl ?_;exact⟨rfl,Mod.keep m8⟩
end Go.Proofs.YtdfppjcaelghhaaGreatDoor
