/- Plain lemmas and contracts; the conditions are in each. -/
import Derived.Deep.DeepAppendRoom
import Derived.Laws.ResultCell
import Derived.Laws.Rows
import Derived.Test.YtdfppjcaelghhaaGreatDoorPartsG
set_option maxHeartbeats 8000000
set_option maxRecDepth 100000
namespace Go.Sl
open Go
class sl (S T:ba):Prop where
 keep:∀x,(S*OY).says x->(T*OY).says x
instance (priority:=3000) sl.refl (S:ba):sl S S:=⟨fun _ h=>h⟩
instance (priority:=2000) sl.mul (S A B R:ba) [p:pG S A R] [k:sl R B]:sl S (A*B):=⟨fun x h=>by
 rw[p.eq,bo]at h;obtain⟨a,b,y,z,E,I⟩:=h;rw[bo]
 exact⟨a,b,y,z,E,k.keep b I⟩⟩
instance (priority:=2500) sl.Pk (S B:ba) [k:sl S B]:sl S (sC*B):=⟨fun x h=>by rw[b9];exact k.keep x h⟩
instance (priority:=1000) sl.last (S A R:ba) [p:pG S A R]:sl S A:=⟨fun x h=>by
 rw[p.eq,bo]at h;obtain⟨a,b,y,z,B,_⟩:=h
 exact⟨a,b,y,z,B,trivial⟩⟩
theorem Mod.keep {w w0:World}{S T:ba}(m:Mod w w0 S) [k:sl S T]:Mod w w0 T:=⟨m.os,m.tape,m.output,k.keep _ m.says⟩
end Go.Sl
namespace Go.Proofs.YtdfppjcaelghhaaGreatDoor
open Go.RowKit Go.Sl
theorem EP {w w0:World}{e:TypeId}{g n c:Nat}{z:Array Value}{xs:List Value}{F:ba}(m:Mod w w0 (aE g (.cells z e (0,0))*F))(B:n<=c)(E:c<=maxLen)(M:z.size=c)(O:xs.length=n)(I:z.toList.take n=xs):Mod w w0 (ar e 1 (.slice (some ⟨g,0,none⟩) n c) n xs*F):=by
 refine Mod.conv (S:=aE g (.cells z e (0,0))*F) (m:=m) fun x J=>lF (A:=aE g (.cells z e (0,0))) (fun y K=>?_) J;exact⟨by omega,.inr ⟨g,c,z,rfl,B,E,by omega,by rw[zas];exact I,K⟩⟩
end Go.Proofs.YtdfppjcaelghhaaGreatDoor
namespace Go.Sl
open Go Go.RowKit
theorem py {w w0:World}{e size:Nat}{A:Option Addr}{n c:Nat}{xs:List Value}{F:ba}(m:Mod w w0 (ar e size (.slice A n c) n xs*F))(hn:0<n):∃g y,A=some ⟨g,0,none⟩/\n<=c/\c<=maxLen/\xs.length=n*size/\y.size=c*size/\y.toList.take (n*size)=xs/\Mod w w0 (aE g (.cells y e (0,0))*F):=by
 have h:=m.says;rw[bo]at h;obtain⟨a,b,E,I,⟨M,J⟩,K⟩:=h;rcases J with⟨_,h0,_⟩ | ⟨g,cap,y,O,U,V,X,Y,rfl⟩
 ·omega
 ·injection O with z Z B
  subst z B;exact⟨g,y,rfl,U,V,M,X,Y,m.os,m.tape,m.output,by rw[bo];exact⟨_,b,E,I,rfl,K⟩⟩
theorem me {w w0:World}{e size:Nat}{g n c:Nat}{z:Array Value}{xs:List Value}{F:ba}(m:Mod w w0 (aE g (.cells z e (0,0))*F))(B:n<=c)(E:c<=maxLen)(I:z.size=c*size)(J:xs.length=n*size)(K:z.toList.take (n*size)=xs):Mod w w0 (ar e size (.slice (some ⟨g,0,none⟩) n c) n xs*F):=by
 refine Mod.conv (S:=aE g (.cells z e (0,0))*F) (m:=m) fun x M=>lF (A:=aE g (.cells z e (0,0))) (fun y O=>?_) M;exact⟨J,.inr ⟨g,c,z,rfl,B,E,I,K,O⟩⟩
theorem nP {w w0:World}{e:TypeId}{size n:Nat}{v:Value}{xs:List Value}{F:ba}(m:Mod w w0 (ar e size v n xs*F)):∃A c,v=.slice A n c/\n<=c:=by
 rcases (fW m).2 with⟨y,z⟩ | ⟨g,cap,B,y,_,_,z,_⟩
 ·exact⟨none,0,by rw[y,z],by omega⟩
 ·exact⟨_,_,y,z⟩
theorem se {P:Program}{w w0:World}{F:ba}{U:Array Oper}{rest:List Oper}{o:Oper}{a:Act}{Q:Exit->Act->World->Prop}{s x:Operand}{t e size bytes:Nat} [T:yH P t e size bytes](K:o.guard=none)
 (ho:o.op=.call {callee:=.builtin .append,args:=#[s,x],argTypes:=#[t,t]}) {v:Value} {n:Nat} {xs:List Value} (m:Mod w w0 (ar e size v n xs*F)) (hs:a.eval s=v)
 {A:Option Addr} {k c:Nat} {news:List Value} (hx:a.eval x=.slice A k c) (r:bk F A (k*size) news) (y:∀u∈news,u.oneCell'=true) (aa:n+k<=maxLen) (B:(n+k)*bytes<=140737488355328)
 (h:∀A' c' w',Mod w' w0 (ar e size (.slice A' (n+k) c') (n+k) (xs++news)*F)->wpList P U Q rest (a.put o.dst (.slice A' (n+k) c')) w'):wpList P U Q (o::rest) a w:=by
 rcases YD k with V | V
 ·subst V
  have rS:bk (ar e size v n xs*F) A (0*size) news:=zbk;have M:=fp m rS;have I:news=[]:=Zo (by rw[M,Xj]);subst I;obtain⟨i,z,hi,hz,J,ae,ah,h0⟩:=T.get;have E:=fW m
  have ag:∃A' c',v=.slice A' n c':=by
   rcases E.2 with⟨y,Y⟩ | ⟨g,cap,X,y,_⟩
   ·exact⟨none,0,by rw[y,Y]⟩
   ·exact⟨_,_,y⟩
  obtain⟨A',c',rfl⟩:=ag
  have O:(Builtin.append_ #[t,t] o.type #[.slice A' n c',.slice A 0 c]).run P w=.ok (.slice A' n c') w:=by
   rcases E.2 with⟨y,rfl⟩ | ⟨g,cap,X,y,_,hh,af,_⟩
   ·injection y with y Y Z
    subst y Z;cases A <;> simp[Builtin.append_,run_underlying T.ht,sizeOf,typeInfo,hi,Builtin.lenOf,Builtin.firstCells,loadCells,loadCellsFrom]
   ·injection y with y Y Z
    subst y Z;cases A <;> simp[Builtin.append_,run_underlying T.ht,sizeOf,typeInfo,hi,Builtin.lenOf,Builtin.firstCells,loadCells,loadCellsFrom,af,storeCells]
  refine wpList_plain K fun _ hK=>?_;unfold Oper.wp execOp;simp only[ho,resolve,invoke,builtin,Sem.run_bind,Sem.run_pure,Result.andThen_ok,Y0,Zy,Ye,hs,hx,O];exact hK _ _ (h A' c' w (by simpa using m))
 ·have rS:bk (ar e size v n xs*F) A (k*size) news:=zbk
  obtain⟨i,z,hi,hz,J,ae,ah,h0⟩:=T.get;obtain⟨ad,rfl,_,_⟩:=cP m rS (zat V h0);exact i9 K ho m hs hx r V y aa B h
def ca (n:Nat):List UInt8:=if n<128 then [UInt8.ofNat n]else UInt8.ofNat (n%128+128)::ca (n / 128)
termination_by n
decreasing_by omega
theorem nR {n:Nat}(h:n<128):ca n=[UInt8.ofNat n]:=by rw[ca,if_pos h]
theorem vZ {n:Nat}(h:¬n<128):ca n=UInt8.ofNat (n%128+128)::ca (n / 128):=by rw[ca,if_neg h]
theorem we (n:Nat):1<=(ca n).length:=by
 rw[ca];split <;> simp
theorem pE:∀(k n:Nat),n<128 ^ (k+1)->(ca n).length<=k+1
 | 0,n,h=>by rw[nR (by omega)];simp
 | k+1,n,h=>by
   by_cases hn:n<128
   ·rw[nR hn];simp
   ·rw[vZ hn]
    have:=pE k (n / 128) (by rw[Nat.pow_succ]at h;omega);simp only[List.length_cons];omega
theorem cN {n:Nat}(h:n<18446744073709551616):(ca n).length<=10:=pE 9 n (by omega)
end Go.Sl
namespace Go.Proofs.YtdfppjcaelghhaaGreatDoor
open Go.RowKit Go.Sl
attribute [local go_sem] ab bj bh bd CS
theorem EQ {w w0:World}{e size:Nat}{A:Option Addr}{n c:Nat}{xs:List Value}{F:ba}(m:Mod w w0 (ar e size (.slice A n c) n xs*F))(hn:0<n):∃g,A=some ⟨g,0,none⟩:=by
 obtain⟨g,y,h,_⟩:=py m hn;exact⟨g,h⟩
theorem Od (v:Nat):bits .or .u8 ((v:Int)%256) 128=((v%128+128:Nat):Int):=by
 have h:∀x:Fin 256,bits .or .u8 (x.val:Int) 128=((x.val%128+128:Nat):Int):=by decide +kernel
 have y:=h ⟨v%256,by omega⟩;simp only at y;have e:((v:Int)%256)=((v%256:Nat):Int):=by omega
 rw[e,y];omega
theorem zx (g:Nat)(A:Option Addr)(k c:Nat)(xs:List UInt8)(z:Int)(x:UInt8)(I:z=(x.toNat:Int))(w w0:World)(F:ba)(O:k<=1000000000)(m:Mod w w0 (aE g (.cells #[.slice A k c] 67 (0,0))*(ar 5 1 (.slice A k c) k (b7 xs)*F))) :
 Calls Tryz.prog 114 #[.int .u8 z,ap g] w fun e K=>e=.returned (.tuple #[])/\∃A' c',Mod K w0 (aE g (.cells #[.slice A' (k+1) c'] 67 (0,0))*(ar 5 1 (.slice A' (k+1) c') (k+1) (b7 (xs++[x]))*F)):=by
 subst I;go_enter Tryz.func114,Tryz.ntmps114
 go_wp2_with (at_builtin;refine cS (v:=.slice A k c) (A:=some ⟨w.heap.size,0,none⟩) (k:=1) (c:=1) (news:=b7 [x]) (r:=ce rfl rfl) rfl rfl zbk rfl rfl (io _) (by unfold maxLen;omega) (by omega) ?_;intro y B M J)
 rw[<-eC]at J;go_end0
 have E:Mod (M.setCell ⟨g,0,none⟩ (.slice y (k+1) B)) w0 _:=zbk;simp only[Zb,Zc]at E;exact⟨rfl,y,B,Mod.keep E⟩
theorem C2 (g:Nat)(n:Nat)(hn:n<18446744073709551616)(A:Option Addr)(k c:Nat)(xs:List UInt8)(w w0:World)(F:ba)(hk:k<=900000000)(m:Mod w w0 (aE g (.cells #[.slice A k c] 67 (0,0))*(ar 5 1 (.slice A k c) k (b7 xs)*F))) :
 Calls Tryz.prog 113 #[.int .u64 (n:Int),.func (.func 114) #[] #[ap g]] w fun e w'=>e=.returned (.tuple #[])/\∃A' c',Mod w' w0 (aE g (.cells #[.slice A' (k+(ca n).length) c'] 67 (0,0))*(ar 5 1 (.slice A' (k+(ca n).length) c') (k+(ca n).length) (b7 (xs++ca n))*F)):=by
 obtain⟨V,X⟩:∃V,ca n=V:=⟨_,rfl⟩;have ag:V.length<=10:=by rw[<-X];exact cN hn
 rw[X];have HV:=zbj X;clear X;go_enter Tryz.func113,Tryz.ntmps113
 go_wp2_with fail
 go_loopg [0] n (fun gk v wr=>∃(q z J:Nat)(I:Option Addr)(B:List UInt8),gk=q/\v=.int .u64 (q:Int)/\q<=n/\k<=z/\Hid (V=B++ca q/\z=k+B.length)/\z<=k+10/\Mod wr w0 (aE g (.cells #[.slice I z J] 67 (0,0))*(ar 5 1 (.slice I z J) z (b7 (xs++B))*F)))
 case atStart=>exact⟨n,k,c,A,[],rfl,rfl,Zm _,Zm _,⟨HV.out.symm,rfl⟩,by omega,by rw[ZH];exact m⟩
 case round =>
  obtain⟨q,z,J,I,B,ah,rfl,hq,ai,E,af,m2⟩:=hrel;by_cases h:q<128
  ·have ae:¬(128:Int)<=(q:Int):=by omega
   have aa:V.length=B.length+1:=by rw[E.out.1,nR h];simp
   have U:Hid (V=B++[UInt8.ofNat q]/\z+1=k+V.length):=⟨by rw[E.out.1,nR h],by have:=E.out.2;omega⟩;have K:(q:Int)=((UInt8.ofNat q).toNat:Int):=by rw[UInt8.toNat_ofNat'];omega
   have Z:=zbj K;clear K aa;go_wp2_with (go_at_call 114;refine(zx g I z J (xs++B) _ (UInt8.ofNat q) Z.out _ w0 F (by omega) m2).mono ?_;rintro e w3 ⟨rfl,Y,c3,m3⟩)
   go_end0
   exact⟨rfl,Y,c3,by rw[<-U.out.2,U.out.1,<-Zr];exact m3⟩
  ·have ae:(128:Int)<=(q:Int):=by omega
   have O:=we (q / 128);have y:=E.out;rw[vZ h]at y;have hl:=congrArg List.length y.1;simp only[Ze,List.length_cons]at hl;have U:Hid (V=(B++[UInt8.ofNat (q%128+128)])++ca (q / 128)/\z+1=k+(B++[UInt8.ofNat (q%128+128)]).length):=⟨by rw[y.1,Zr];rfl,by rw[Ze,List.length_singleton];have:=y.2;omega⟩;have M:z+1<=k+10:=by have:=y.2;omega
   have K:bits .or .u8 ((q:Int)%256) 128=((UInt8.ofNat (q%128+128)).toNat:Int):=by rw[Od,UInt8.toNat_ofNat'];omega
   have Z:=zbj K;clear K hl y O;go_wp2_with (go_at_call 114;refine(zx g I z J (xs++B) _ (UInt8.ofNat (q%128+128)) Z.out _ w0 F (by omega) m2).mono ?_;rintro e w3 ⟨rfl,Y,c3,m3⟩)
   go_roundg (q / 128)
   case measure=>omega
   case rel=>exact⟨q / 128,z+1,c3,Y,B++[UInt8.ofNat (q%128+128)],rfl,by go_num,by omega,by omega,U,M,by rw[<-Zr];exact m3⟩
theorem kx (B:Option Addr)(n c:Nat)(xs:List UInt8)(v:Nat)(J:v<18446744073709551616)(w w0:World)(S:ba)(m:Mod w w0 S)(r:bk S B n (b7 xs))(hn:n<=1000000000) :
 Calls Tryz.prog 64 #[.slice B n c,.int .u64 (v:Int)] w fun e w'=>∃A' c',e=.returned (.slice A' (n+(ca v).length) c')/\Mod w' w0 (ar 5 1 (.slice A' (n+(ca v).length) c') (n+(ca v).length) (b7 (xs++ca v))*S):=by
 have I:=cN J;have hp:=we v;obtain⟨V,z⟩:∃V,ca v=V:=⟨_,rfl⟩;have y:=zbj (fun(g:Nat)(w:World)(F:ba) m=>C2 g v J none 0 0 [] w w0 F (by omega) m);rw[z]at y I hp ⊢;obtain⟨k,E⟩:∃k,V.length=k:=⟨_,rfl⟩;rw[E]at y I hp ⊢;clear z E;go_enter Tryz.func64,Tryz.ntmps64
 go_wp2_with (go_at_call 113;refine(y.out w.heap.size _ S (Mod.to (m:=lS (e:=5) (zbk:Mod (w.alloc (.cells #[.slice none 0 0] 67)) w0 _)) (by show _=aE w.heap.size (.cells #[.slice none 0 0] 67 (0,0))*(ar 5 1 (.slice none 0 0) 0 []*S);ac_rfl))).mono ?_;rintro e w1 ⟨rfl,A1,O,K⟩;simp only[ZM,List.nil_append]at K;refine Hid.out ?_)
 obtain⟨X,Y⟩:=EQ (Mod.to (m:=K) (cC _ _ _)) (by omega);subst Y;refine zbj ?_;go_wp2_with (go_at_call 115;refine(zI B n c xs _ V _ w0 _ zbk zbk X k O zbk zbk (by omega)).mono ?_;rintro e w2 ⟨M,U,rfl,Z⟩)
 go_ret
 exact⟨M,U,rfl,Mod.keep Z⟩
theorem j9 (B:Option Addr)(n c:Nat)(xs:List UInt8)(s:ByteArray)(Y:s.size<=1000000000)(w w0:World)(S:ba)(m:Mod w w0 S)(r:bk S B n (b7 xs))(hn:n<=1000000000) :
 Calls Tryz.prog 65 #[.slice B n c,.string s] w fun e X=>∃A' c',e=.returned (.slice A' (n+(ca s.size).length+s.size) c')/\Mod X w0 (ar 5 1 (.slice A' (n+(ca s.size).length+s.size) c') (n+(ca s.size).length+s.size) (b7 (xs++ca s.size++s.data.toList))*S):=by
 have I:=cN (n:=s.size) (by omega);have y:=zbj (fun(w:World) m=>kx B n c xs s.size (by omega) w w0 S m r hn);obtain⟨V,z⟩:∃V,ca s.size=V:=⟨_,rfl⟩;rw[z]at y I ⊢;obtain⟨k,E⟩:∃k,V.length=k:=⟨_,rfl⟩;rw[E]at y I ⊢;clear z E;go_enter Tryz.func65,Tryz.ntmps65
 go_wp2_with first
  | (go_at_call 64;refine(y.out _ m).mono ?_;rintro e w1 ⟨J,M,rfl,Z⟩)
  | (go_at_call 115;refine(zI J (n+k) M (xs++V) _ s.data.toList _ w0 _ zbk zbk w1.heap.size s.size _ zbk zbk (by omega)).mono ?_;rintro e w2 ⟨K,O,rfl,U⟩)
 go_ret
 exact⟨K,O,rfl,Mod.keep U⟩
end Go.Proofs.YtdfppjcaelghhaaGreatDoor
namespace Go.Sl
open Go
structure bi where
 num:Nat
 level:Int
 least:ByteArray
 most:ByteArray
def bi.cells (f:bi):List Value:=[.int .u32 (f.num:Int),.int .i64 f.level,.string f.least,.string f.most]
def mj (s:ByteArray):Bool := !s.toList.isEmpty&&decide (s.size<=32)
def Bu (l:Int):Bool:=decide (0<=l)&&decide (l<4)
def Ov (a b:ByteArray):Bool:=Op.bytesLess a.toList b.toList||a.toList==b.toList
def oC (f:bi):Bool:=((Bu f.level&&mj f.least)&&mj f.most)&&Ov f.least f.most
end Go.Sl
namespace Go.Proofs.YtdfppjcaelghhaaGreatDoor
open Go.RowKit Go.Sl
attribute [local go_sem] ab bj bh bd
theorem fi (s:ByteArray)(w w0:World)(S:ba)(m:Mod w w0 S):Calls Tryz.prog 62 #[.string s] w fun e J=>e=.returned (.bool (mj s))/\Mod J w0 S:=by
 have y:decide ((s.size:Int)<=32)=decide (s.size<=32):=by congr 1;exact propext ⟨fun h=>by omega,fun h=>by omega⟩
 have I:=zbj y;have B:Hid (mj s=(!s.toList.isEmpty&&decide (s.size<=32))):=rfl;clear y;cases z:s.toList.isEmpty
 ·rw[z]at B
  have E:¬s.toList=[]:=by intro h;rw[h]at z;cases z
  go_enter Tryz.func62,Tryz.ntmps62
  go_wp2_with fail
  go_ret
  exact⟨by rw[B.out,<-I.out];simp,m⟩
 ·rw[z]at B
  have E:s.toList=[]:=by simpa using z
  go_enter Tryz.func62,Tryz.ntmps62
  go_wp2_with fail
  go_ret
  exact⟨by rw[B.out];rfl,m⟩
theorem Jl (f:bi)(w w0:World)(S:ba)(m:Mod w w0 S):Calls Tryz.prog 243 #[.agg #[.int .u32 (f.num:Int),.int .i64 f.level,.string f.least,.string f.most]] w fun e w'=>e=.returned (.bool (oC f))/\Mod w' w0 S:=by
 obtain⟨num,lv,a,b⟩:=f;have y:Hid (oC ⟨num,lv,a,b⟩=(((Bu lv&&mj a)&&mj b)&&Ov a b)):=rfl;have M:Mod (w.alloc (.cells #[.int .u32 (num:Int),.int .i64 lv,.string a,.string b] 44)) w0 _:=Mod.alloc (m:=m) _;show Calls Tryz.prog _ #[.agg #[.int .u32 (num:Int),.int .i64 lv,.string a,.string b]] _ _
 cases E:Bu lv with
 | false =>
   rw[E]at y;have I:lv<0\/4<=lv:=by unfold Bu at E;simp at E;omega
   clear E;rcases I with h | h
   ·have h':¬(0:Int)<=lv:=by omega
    go_enter Tryz.func243,Tryz.ntmps243
    go_wp2_with fail
    go_ret
    exact⟨by rw[y.out];rfl,Mod.keep M⟩
   ·have h':¬lv<4:=by omega
    have X:(0:Int)<=lv:=by omega
    go_enter Tryz.func243,Tryz.ntmps243
    go_wp2_with fail
    go_ret
    exact⟨by rw[y.out];rfl,Mod.keep M⟩
 | true =>
   rw[E]at y;have I:0<=lv/\lv<4:=by unfold Bu at E;simp at E;omega
   obtain⟨Y,Z⟩:=I;clear E
   cases z:mj a with
   | false =>
     have J:=zbj (fun(u:World)(S:ba)(O:Mod u w0 S)=>fi a u w0 S O);rw[z]at J y;clear z;go_enter Tryz.func243,Tryz.ntmps243
     go_wp2_with (go_at_call 62;refine(J.out _ _ M).mono ?_;rintro e w1 ⟨rfl,K⟩)
     go_ret
     exact⟨by rw[y.out];rfl,Mod.keep K⟩
   | true =>
     have J:=zbj (fun(u:World)(S:ba)(O:Mod u w0 S)=>fi a u w0 S O);have U:=zbj (fun(u:World)(S:ba)(O:Mod u w0 S)=>fi b u w0 S O);rw[z]at J y;clear z
     cases B:mj b with
     | false =>
       rw[B]at U y;clear B;go_enter Tryz.func243,Tryz.ntmps243
       go_wp2_with first
        | (go_at_call 62;refine(U.out _ _ K).mono ?_;rintro e w2 ⟨rfl,V⟩)
        | (go_at_call 62;refine(J.out _ _ M).mono ?_;rintro e w1 ⟨rfl,K⟩)
       go_ret
       exact⟨by rw[y.out];rfl,Mod.keep V⟩
     | true =>
       rw[B]at U y;clear B;go_enter Tryz.func243,Tryz.ntmps243
       go_wp2_with first
        | (go_at_call 62;refine(U.out _ _ K).mono ?_;rintro e w2 ⟨rfl,V⟩)
        | (go_at_call 62;refine(J.out _ _ M).mono ?_;rintro e w1 ⟨rfl,K⟩)
       go_ret
       exact⟨by rw[y.out];rfl,Mod.keep V⟩
theorem DR (f:bi)(w w0:World)(S:ba)(m:Mod w w0 S):Calls Tryz.prog 242 #[.agg #[.int .u32 (f.num:Int),.int .i64 f.level,.string f.least,.string f.most]] w fun e B=>e=.returned (.bool (!oC f))/\Mod B w0 S:=by
 have H:=zbj (fun(u:World)(S:ba)(z:Mod u w0 S)=>Jl f u w0 S z);generalize oC f=b at *;go_enter Tryz.func242,Tryz.ntmps242
 go_wp2_with (go_at_call 243;refine(H.out _ _ (Mod.alloc (m:=m) _)).mono ?_;rintro e w1 ⟨rfl,y⟩)
 go_ret
 exact⟨rfl,Mod.keep y⟩
structure du (S:ba)(A:Option Addr)(n:Nat)(l:List bi):Prop where
 len:l.length=n
 cells:bk S A (n*4) (l.flatMap bi.cells)
theorem du.lift {S' S:ba}{A:Option Addr}{n:Nat}{l:List bi}(s:Sub S' S)(r:du S A n l):du S' A n l:=⟨r.len,ct s r.cells⟩
theorem wF:∀(l:List bi)(k j:Nat)(v:Value)(h:k<l.length),l[k].cells[j]?=some v->(l.flatMap bi.cells)[k*4+j]?=some v
 | [],k,_,_,h,_=>by simp at h
 | x::l,0,j,v,_,hv=>by
   simp only[List.getElem_cons_zero]at hv;rw[Zp,Xj,ZM,Yz (Yd.1 hv).1];exact hv
 | x::l,k+1,j,v,h,hv=>by
   have y:x.cells.length=4:=rfl;rw[Zp,Z7 (by rw[y];omega),y,show (k+1)*4+j-4=k*4+j by omega];exact wF l k j v (by simpa using h) (by simpa using hv)
theorem oL {S:ba}{b o n:Nat}{l:List bi}(r:du S (some ⟨b,o,none⟩) n l){k:Nat}(y:k<l.length):bw S b (o+k*4) (.int .u32 (l[k].num:Int))/\bw S b (o+k*4+1) (.int .i64 l[k].level)/\bw S b (o+k*4+2) (.string l[k].least)/\bw S b (o+k*4+3) (.string l[k].most):=by
 have hp:0<n*4:=by have:=r.len;omega
 have f:∀j v,l[k].cells[j]?=some v->bw S b (o+k*4+j) v:=fun j v z=>by
  rw[YB];exact eL r.cells hp _ (wF l k j v y z)
 exact⟨f 0 _ rfl,f 1 _ rfl,f 2 _ rfl,f 3 _ rfl⟩
theorem j8 {w w0:World}{S:ba}{A:Option Addr}{n:Nat}{l:List bi}(m:Mod w w0 S)(r:du S A n l){k:Nat}(B:k<n):∃b o,A=some ⟨b,o,none⟩:=by
 obtain⟨ad,z,y,_⟩:=cP m r.cells (by omega);obtain⟨b,o,E⟩:=ad;simp only at y;subst y;exact⟨b,o,z⟩
def ko (p:bi->Bool)(l:List bi):Int:=match l.findIdx? p with | some i=>(i:Int) | none => -1
theorem zB {p:bi->Bool}{l:List bi}{i:Nat}(y:i<l.length)(h:∀j (_:j<l.length),j<i->p l[j]=false)(hp:p l[i]=true):ko p l=(i:Int):=by
 unfold ko
 have:l.findIdx? p=some i:=by
  rw[Zk];exact⟨y,hp,fun j z=>by simpa using h j (by omega) z⟩
 rw[this]
theorem vC {p:bi->Bool}{l:List bi}(h:∀j (_:j<l.length),p l[j]=false):ko p l = -1:=by
 unfold ko
 have:l.findIdx? p=none:=by
  rw[ZV];intro x z;obtain⟨j,y,rfl⟩:=ZI.1 z;exact h j y
 rw[this]
theorem zA (A:Option Addr)(n c:Nat)(l:List bi)(w w0:World)(S:ba)(m:Mod w w0 S)(r:du S A n l)(hn:n<=1000000000) :
 Calls Tryz.prog 184 #[.slice A n c,.func (.func 242) #[] #[]] w fun e w'=>e=.returned (.int .i64 (ko (fun f => !oC f) l))/\Mod w' w0 S:=by
 have R:=zbj r;obtain⟨z,V⟩:∃z,ko (fun f => !oC f) l=z:=⟨_,rfl⟩;rw[V];have Y:=zbj V;clear r V;go_enter Tryz.func184,Tryz.ntmps184
 go_wp2_with fail
 go_loopg [8] n (fun gk iv wr=>∃i:Nat,i<=n/\gk=n-i/\iv=.int .i64 (i:Int)/\Hid (∀j (_:j<l.length),j<i->(!oC l[j])=false)/\Mod wr w0 S)
 case atStart=>exact⟨0,Zv _,rfl,rfl,(fun j _ M=>by omega),m⟩
 case round =>
  obtain⟨i,hi,Z,rfl,y,O⟩:=hrel;by_cases I:i<n
  ·have U:(i:Int)<(n:Int):=by omega
   have J:i<l.length:=by rw[R.out.len];exact I
   obtain⟨b,o,rfl⟩:=j8 O R.out I;obtain⟨c0,c1,c2,c3⟩:=oL R.out J;have K:=zbj (fun(u:World)(mu:Mod u w0 S)=>DR l[i] u w0 S mu)
   cases hp:oC l[i]with
   | true =>
     rw[hp]at K
     have E:Hid (∀j (_:j<l.length),j<i+1->(!oC l[j])=false):=fun j M aa=>by
      by_cases e:j=i
      ·subst e;rw[hp];rfl
      ·exact y.out j M (by omega)
     clear hp;generalize l[i]=f at *;go_wp2_with (go_at_call 242;refine(K.out _ O).mono ?_;rintro e w1 ⟨rfl,X⟩)
     go_roundg (n-(i+1))
     case measure=>omega
     case rel=>exact⟨i+1,I,rfl,by go_num,E,X⟩
   | false =>
     rw[hp]at K;have B:Hid (z=(i:Int)):=by show _=_;rw[<-Y.out];exact zB J y.out (by rw[hp];rfl)
     clear hp;generalize l[i]=f at *;go_wp2_with (go_at_call 242;refine(K.out _ O).mono ?_;rintro e w1 ⟨rfl,X⟩)
     (try rw[Exit.noGoto_ret])
     go_ret
     exact⟨by rw[B.out];rfl,X⟩
  ·have U:¬(i:Int)<(n:Int):=by omega
   have B:Hid (z = -1):=by
    show _=_;rw[<-Y.out];exact vC fun j M=>y.out j M (by have:=R.out.len;omega)
   go_wp2_with fail
   go_ret
   exact⟨by rw[B.out];rfl,O⟩
theorem Gq (p:bi->Bool)(l:List bi):decide (0<=ko p l)=l.any p:=by
 unfold ko
 cases h:l.findIdx? p with
 | none =>
   rw[ZV]at h;have:l.any p=false:=by rw[Y3];intro x z;rw[h x z];decide
   rw[this];rfl
 | some i =>
   obtain⟨y,hp,_⟩:=Zk.1 h;have:l.any p=true:=Yb.2 ⟨l[i],Zq y,hp⟩;rw[this];show decide (0<=(i:Int))=true;exact decide_eq_true (by omega)
def kh (l:List bi):Bool:=l.all oC
theorem uq (A:Option Addr)(n c:Nat)(l:List bi)(w w0:World)(S:ba)(m:Mod w w0 S)(r:du S A n l)(hn:n<=1000000000) :
 Calls Tryz.prog 178 #[.slice A n c] w fun e E=>e=.returned (.bool (kh l))/\Mod E w0 S:=by
 have H:=zbj (fun(u:World)(B:Mod u w0 S)=>zA A n c l u w0 S B r hn)
 have K:(!decide (0<=ko (fun f => !oC f) l))=kh l:=by
  rw[Gq];unfold kh;rw[List.all_eq_not_any_not]
 have I:=zbj K;generalize ko (fun f => !oC f) l=z at *;clear K;by_cases M:0<=z
 ·rw[decide_eq_true M]at I
  have J:Hid (∀u,Mod u w0 S->Calls Tryz.prog 241 #[.slice A n c,.func (.func 242) #[] #[]] u fun e E=>e=.returned (.bool true)/\Mod E w0 S):=fun u B=>by
   go_enter Tryz.func241,Tryz.ntmps241
   go_wp2_with (go_at_call 184;refine(H.out _ B).mono ?_;rintro e w1 ⟨rfl,y⟩)
   go_ret
   exact⟨rfl,y⟩
  go_enter Tryz.func178,Tryz.ntmps178
  go_wp2_with (go_at_call 241;refine(J.out _ m).mono ?_;rintro e w1 ⟨rfl,y⟩)
  go_ret
  exact⟨by rw[<-I.out];rfl,y⟩
 ·rw[decide_eq_false M]at I
  have O:z<0:=by omega
  have J:Hid (∀u,Mod u w0 S->Calls Tryz.prog 241 #[.slice A n c,.func (.func 242) #[] #[]] u fun e E=>e=.returned (.bool false)/\Mod E w0 S):=fun u B=>by
   go_enter Tryz.func241,Tryz.ntmps241
   go_wp2_with (go_at_call 184;refine(H.out _ B).mono ?_;rintro e w1 ⟨rfl,y⟩)
   go_ret
   exact⟨congrArg (fun b=>Ending.returned (.bool b)) (decide_eq_false (by omega)),y⟩
  go_enter Tryz.func178,Tryz.ntmps178
  go_wp2_with (go_at_call 241;refine(J.out _ m).mono ?_;rintro e w1 ⟨rfl,y⟩)
  go_ret
  exact⟨by rw[<-I.out];rfl,y⟩
end Go.Proofs.YtdfppjcaelghhaaGreatDoor
namespace Go.Sl
open Go
structure db where
 added:List bi
 removed:List Nat
 al:Nat
 next:Nat
 seq:Nat
def fk (s:ByteArray):List UInt8:=ca s.size++s.data.toList
def lI (f:bi):List UInt8:=ca f.num++(ca f.level.toNat++(fk f.least++fk f.most))
def de (x:db):List UInt8:=ca x.added.length++(x.added.flatMap lI++(ca x.removed.length++(x.removed.flatMap ca++(ca x.al++(ca x.next++ca x.seq)))))
theorem tF {s:ByteArray}(h:s.size<=32):(fk s).length<=42:=by
 have:=cN (n:=s.size) (by omega);have e:s.data.toList.length=s.size:=by rw[Array.length_toList];rfl
 unfold fk;rw[Ze,e];omega
theorem wE {f:bi}(h:oC f=true)(hn:f.num<4294967296):(lI f).length<=104:=by
 unfold oC Bu mj at h;simp only[Yg,decide_eq_true_eq]at h;have y:=tF h.1.1.2.2;have z:=tF h.1.2.2;have B:=cN (n:=f.num) (by omega);have E:=cN (n:=f.level.toNat) (by omega);unfold lI;simp only[Ze];omega
theorem sL {α:Type}(g:α->List UInt8)(l:List α)(i:Nat)(h:i<l.length):(l.take (i+1)).flatMap g=(l.take i).flatMap g++g l[i]:=by
 rw[Zx h,Z4,List.flatMap_singleton]
theorem o7 {α:Type}(g:α->List UInt8)(k:Nat):∀(l:List α),(∀x∈l,(g x).length<=k)->(l.flatMap g).length<=k*l.length
 | [],_=>by simp
 | x::l,h=>by
   have B:=h x (Zj ..);have E:=o7 g k l fun y z=>h y (Zh _ z);rw[Zp,Ze,List.length_cons,Nat.mul_succ];omega
end Go.Sl
namespace Go.Proofs.YtdfppjcaelghhaaGreatDoor
open Go.RowKit Go.Sl
attribute [local go_sem] ab bj bh bd
theorem ol (z:Int)(v:Nat)(E:z=(v:Int))(B:Option Addr)(n c:Nat)(xs:List UInt8)(y:v<18446744073709551616)(w w0:World)(S:ba)(m:Mod w w0 S)(r:bk S B n (b7 xs))(hn:n<=1000000000) :
 Calls Tryz.prog 64 #[.slice B n c,.int .u64 z] w fun e I=>∃A' c',e=.returned (.slice A' (n+(ca v).length) c')/\Mod I w0 (ar 5 1 (.slice A' (n+(ca v).length) c') (n+(ca v).length) (b7 (xs++ca v))*S):=by
 subst E;exact kx B n c xs v y w w0 S m r hn
theorem FW (B:Option Addr)(n c:Nat)(xs:List UInt8)(f:bi)(hm:oC f=true)(z:f.num<4294967296)(w w0:World)(S:ba)(m:Mod w w0 S)(r:bk S B n (b7 xs))(hn:n<=900000000) :
 Calls Tryz.prog 180 #[.slice B n c,.agg #[.int .u32 (f.num:Int),.int .i64 f.level,.string f.least,.string f.most]] w fun e w'=>∃A' c',e=.returned (.slice A' (n+(lI f).length) c')/\Mod w' w0 (ar 5 1 (.slice A' (n+(lI f).length) c') (n+(lI f).length) (b7 (xs++lI f))*S):=by
 have y:=hm;unfold oC Bu mj at y;simp only[Yg,decide_eq_true_eq]at y;obtain⟨num,lv,a,b⟩:=f;simp only at y z ⊢;obtain⟨⟨⟨⟨aa,ae⟩,_,ha⟩,_,hb⟩,_⟩:=y;obtain⟨k,rfl⟩:∃k:Nat,lv=k:=⟨lv.toNat,by omega⟩;have E:lI ⟨num,(k:Int),a,b⟩=ca num++(ca k++(fk a++fk b)):=by unfold lI;simp
 have h1:=cN (n:=num) (by omega);have h2:=cN (n:=k) (by omega);have h3:=tF ha;have h4:=tF hb;have O:(fk a).length=(ca a.size).length+a.size:=by unfold fk;rw[Ze,td]
 have U:(fk b).length=(ca b.size).length+b.size:=by unfold fk;rw[Ze,td]
 have I:IntKind.u64.wrap (num:Int)=(num:Int):=by rw[IntKind.wrap_u64];omega
 have J:IntKind.u64.wrap (k:Int)=(k:Int):=by rw[IntKind.wrap_u64];omega
 go_enter Tryz.func180,Tryz.ntmps180
 go_wp2_with fail
 go_region_held3 (fun u=>u.cell? ⟨w.heap.size,0,none⟩=some (.int .u32 (num:Int))/\u.cell? ⟨w.heap.size,1,none⟩=some (.int .i64 (k:Int))) (refine⟨?_,?_⟩ <;> (rw[ab];rfl))
  (first
    | (go_at_call 64;refine(ol _ k rfl Y _ c1 _ (by omega) _ w0 _ V zbk (by omega)).mono ?_;rintro e w2 ⟨K,M,rfl,X⟩)
    | (go_at_call 64;refine(ol _ num rfl B n c xs (by omega) _ w0 _ zbk zbk (by omega)).mono ?_;rintro e w1 ⟨Y,c1,rfl,V⟩))
 have m3:=Mod.keep (T:=ar 5 1 (.slice K (n+(ca num).length+(ca k).length) M) (n+(ca num).length+(ca k).length) (b7 (xs++ca num++ca k))*(aE w.heap.size (.cells #[.int .u32 (num:Int),.int .i64 (k:Int),.string a,.string b] 44 (0,0))*S)) X;clear V X I J;go_wp2_with fail
 go_region_held3 (fun u=>u.cell? ⟨w.heap.size,2,none⟩=some (.string a)/\u.cell? ⟨w.heap.size,3,none⟩=some (.string b)) (refine⟨?_,?_⟩ <;> (rw[ab];rfl))
  (first
    | (go_at_call 65;refine(j9 Z _ c4 _ b (by omega) _ w0 _ m4 zbk (by omega)).mono ?_;rintro e w5 ⟨A5,c5,rfl,m5⟩)
    | (go_at_call 65;refine(j9 K _ M _ a (by omega) _ w0 _ (Mod.drew (m:=m3)) zbk (by omega)).mono ?_;rintro e w4 ⟨Z,c4,rfl,m4⟩))
 go_wp2_with fail
 go_ret
 refine⟨A5,c5,?_,?_⟩
 ·rw[E]
  simp only[Ze,O,U,<-YB];rfl
 ·have e1:xs++lI ⟨num,(k:Int),a,b⟩=xs++ca num++ca k++ca a.size++a.data.toList++ca b.size++b.data.toList:=by rw[E];simp only[fk,Zr]
  have e2:n+(lI ⟨num,(k:Int),a,b⟩).length=n+(ca num).length+(ca k).length+(ca a.size).length+a.size+(ca b.size).length+b.size:=by rw[E];simp only[Ze,O,U,<-YB]
  rw[e1,e2];exact Mod.keep m5
theorem FX (B:Option Addr)(n c:Nat)(xs:List UInt8)(v:Nat)(J:v<4294967296)(w w0:World)(S:ba)(m:Mod w w0 S)(r:bk S B n (b7 xs))(hn:n<=900000000) :
 Calls Tryz.prog 182 #[.slice B n c,.int .u32 (v:Int)] w fun e I=>∃A' c',e=.returned (.slice A' (n+(ca v).length) c')/\Mod I w0 (ar 5 1 (.slice A' (n+(ca v).length) c') (n+(ca v).length) (b7 (xs++ca v))*S):=by
 go_enter Tryz.func182,Tryz.ntmps182
 go_wp2_with (go_at_call 64;refine(ol _ v rfl B n c xs (by omega) _ w0 _ m r (by omega)).mono ?_;rintro e w1 ⟨y,z,rfl,E⟩)
 go_ret
 exact⟨y,z,rfl,E⟩
structure ku (S:ba)(A:Option Addr)(n:Nat)(l:List Nat):Prop where
 len:l.length=n
 cells:bk S A n (l.map fun v:Nat=>Value.int .u32 (v:Int))
theorem ku.lift {S' S:ba}{A:Option Addr}{n:Nat}{l:List Nat}(s:Sub S' S)(r:ku S A n l):ku S' A n l:=⟨r.len,ct s r.cells⟩
theorem GG {S:ba}{b o n:Nat}{l:List Nat}(r:ku S (some ⟨b,o,none⟩) n l){k:Nat}(y:k<l.length):bw S b (o+k) (.int .u32 (l[k]:Int)) :=
 eL r.cells (by have:=r.len;omega) k (by simp[y])
theorem wQ {w w0:World}{S:ba}{A:Option Addr}{n:Nat}{l:List Nat}(m:Mod w w0 S)(r:ku S A n l){k:Nat}(B:k<n):∃b o,A=some ⟨b,o,none⟩:=by
 obtain⟨ad,z,y,_⟩:=cP m r.cells (by omega);obtain⟨b,o,E⟩:=ad;simp only at y;subst y;exact⟨b,o,z⟩
theorem F2 (B:Option Addr)(z cb:Nat)(xs:List UInt8)(A:Option Addr)(n c:Nat)(l:List bi)(w w0:World)(S:ba)(m:Mod w w0 S)(r:bk S B z (b7 xs))(av:z<=1000)(ra:du S A n l)(hn:n<=1100000)(K:∀f∈l,oC f=true/\f.num<4294967296) :
 Calls Tryz.prog 179 #[.slice B z cb,.slice A n c,.func (.func 180) #[] #[]] w fun e w'=>∃A' c',e=.returned (.slice A' (z+(ca n++l.flatMap lI).length) c')/\Mod w' w0 (ar 5 1 (.slice A' (z+(ca n++l.flatMap lI).length) c') (z+(ca n++l.flatMap lI).length) (b7 (xs++(ca n++l.flatMap lI)))*S):=by
 have hv:=cN (n:=n) (by omega);obtain⟨V,hV⟩:∃V,ca n++l.flatMap lI=V:=⟨_,rfl⟩;have HV:=zbj hV;rw[hV];clear hV;have HA:=zbj ra;have HH:=zbj K;have ai:IntKind.u64.wrap (n:Int)=(n:Int):=by rw[IntKind.wrap_u64];omega
 clear ra K;go_enter Tryz.func179,Tryz.ntmps179
 go_wp2_with (go_at_call 64;refine(ol _ n rfl B z cb xs (by omega) _ w0 _ m r (by omega)).mono ?_;rintro e w1 ⟨A1,c1,rfl,m1⟩)
 obtain⟨v0,y⟩:∃v0,ca n=v0:=⟨_,rfl⟩;have ag:=zbj y;rw[y]at m1 hv;rw[y];clear y ai;go_loopg [0,16] n (fun gk vb iv wr=>∃(i:Nat)(U:Option Addr)(E Z:Nat)(I:List UInt8),i<=n/\gk=n-i/\iv=.int .i64 (i:Int)/\vb=.slice U E Z/\E<=z+10+104*i/\Hid (E=z+I.length)/\Hid (I=v0++(l.take i).flatMap lI)/\Mod wr w0 (ar 5 1 (.slice U E Z) E (b7 (xs++I))*S))
 case atStart=>exact⟨0,A1,_,c1,v0,Zv _,rfl,rfl,rfl,by omega,rfl,by show _=_;rw[List.take_zero,Yv,ZH],m1⟩
 case round =>
  obtain⟨i,U,E,Z,I,hi,au,rfl,rfl,ax,J,Y,m2⟩:=hrel;by_cases O:i<n
  ·have ah:(i:Int)<(n:Int):=by omega
   have M:i<l.length:=by rw[HA.out.len];exact O
   obtain⟨b,o,rfl⟩:=j8 m2 (HA.out.lift zbk) O;obtain⟨c0,aj,c2,ak⟩:=oL HA.out M;have Hs:=zbj (sL lI l i M);have K:=HH.out _ (Zq M);have af:=wE K.1 K.2;generalize l[i]=f at *;have HF:=zbj (fun(u:World)(SS:ba)(mu:Mod u w0 SS)(rr:bk SS U E (b7 (xs++I)))=>FW U E Z (xs++I) f K.1 K.2 u w0 SS mu rr (by omega));obtain⟨FB,aa⟩:∃FB,lI f=FB:=⟨_,rfl⟩;rw[aa]at HF Hs af;clear aa;go_wp2_with (go_at_call 180;refine(HF.out _ _ (Mod.alloc (m:=m2) _) zbk).mono ?_;rintro e w3 ⟨A3,c3,rfl,m3⟩)
   go_roundg (n-(i+1))
   case measure=>omega
   case rel=>exact⟨i+1,A3,E+FB.length,c3,I++FB,O,rfl,by go_num,rfl,by omega,by show _=_;rw[Ze,J.out];omega,by show _=_;rw[Hs.out,Y.out,Zr],by rw[<-Zr];exact Mod.keep m3⟩
  ·have ah:¬(i:Int)<(n:Int):=by omega
   have ae:V=I:=by
    rw[<-HV.out,Y.out,<-ag.out,Zn (by have:=HA.out.len;omega)]
   have X:=zbj ae;clear ae;go_wp2_with fail
   go_ret
   exact⟨U,Z,by rw[X.out,<-J.out];rfl,by rw[X.out,<-J.out];exact m2⟩
theorem F3 (B:Option Addr)(z cb:Nat)(xs:List UInt8)(A:Option Addr)(n c:Nat)(l:List Nat)(w w0:World)(S:ba)(m:Mod w w0 S)(r:bk S B z (b7 xs))(aj:z<=200000000)(ra:ku S A n l)(hn:n<=1100000)(hh:∀v∈l,v<4294967296) :
 Calls Tryz.prog 181 #[.slice B z cb,.slice A n c,.func (.func 182) #[] #[]] w fun e w'=>∃A' c',e=.returned (.slice A' (z+(ca n++l.flatMap ca).length) c')/\Mod w' w0 (ar 5 1 (.slice A' (z+(ca n++l.flatMap ca).length) c') (z+(ca n++l.flatMap ca).length) (b7 (xs++(ca n++l.flatMap ca)))*S):=by
 have hv:=cN (n:=n) (by omega);obtain⟨V,hV⟩:∃V,ca n++l.flatMap ca=V:=⟨_,rfl⟩;have HV:=zbj hV;rw[hV];clear hV;have HA:=zbj ra;have HH:=zbj hh;have ah:IntKind.u64.wrap (n:Int)=(n:Int):=by rw[IntKind.wrap_u64];omega
 clear ra hh;go_enter Tryz.func181,Tryz.ntmps181
 go_wp2_with (go_at_call 64;refine(ol _ n rfl B z cb xs (by omega) _ w0 _ m r (by omega)).mono ?_;rintro e w1 ⟨A1,c1,rfl,m1⟩)
 obtain⟨v0,y⟩:∃v0,ca n=v0:=⟨_,rfl⟩;have af:=zbj y;rw[y]at m1 hv;rw[y];clear y ah;go_loopg [0,16] n (fun gk vb iv wr=>∃(i:Nat)(O:Option Addr)(E Y:Nat)(I:List UInt8),i<=n/\gk=n-i/\iv=.int .i64 (i:Int)/\vb=.slice O E Y/\E<=z+10+10*i/\Hid (E=z+I.length)/\Hid (I=v0++(l.take i).flatMap ca)/\Mod wr w0 (ar 5 1 (.slice O E Y) E (b7 (xs++I))*S))
 case atStart=>exact⟨0,A1,_,c1,v0,Zv _,rfl,rfl,rfl,by omega,rfl,by show _=_;rw[List.take_zero,Yv,ZH],m1⟩
 case round =>
  obtain⟨i,O,E,Y,I,hi,ai,rfl,rfl,ak,J,X,m2⟩:=hrel;by_cases M:i<n
  ·have ag:(i:Int)<(n:Int):=by omega
   have K:i<l.length:=by rw[HA.out.len];exact M
   obtain⟨b,o,rfl⟩:=wQ m2 (HA.out.lift zbk) M;have c0:=GG HA.out K;have Hs:=zbj (sL ca l i K);have hh:=HH.out _ (Zq K);have ae:=cN (n:=l[i]) (by omega);generalize l[i]=f at *;have HF:=zbj (fun(u:World)(SS:ba)(mu:Mod u w0 SS)(rr:bk SS O E (b7 (xs++I)))=>FX O E Y (xs++I) f hh u w0 SS mu rr (by omega));obtain⟨FB,Z⟩:∃FB,ca f=FB:=⟨_,rfl⟩;rw[Z]at HF Hs ae;clear Z;go_wp2_with (go_at_call 182;refine(HF.out _ _ m2 zbk).mono ?_;rintro e w3 ⟨A3,c3,rfl,m3⟩)
   go_roundg (n-(i+1))
   case measure=>omega
   case rel=>exact⟨i+1,A3,E+FB.length,c3,I++FB,M,rfl,by go_num,rfl,by omega,by show _=_;rw[Ze,J.out];omega,by show _=_;rw[Hs.out,X.out,Zr],by rw[<-Zr];exact Mod.keep m3⟩
  ·have ag:¬(i:Int)<(n:Int):=by omega
   have aa:V=I:=by
    rw[<-HV.out,X.out,<-af.out,Zn (by have:=HA.out.len;omega)]
   have U:=zbj aa;clear aa;go_wp2_with fail
   go_ret
   exact⟨O,Y,by rw[U.out,<-J.out];rfl,by rw[U.out,<-J.out];exact m2⟩
structure xb where
 aA:Option Addr
 aC:Nat
 rA:Option Addr
 rC:Nat
def jW (L:xb)(x:db):Array Value:=#[.slice L.aA x.added.length L.aC,.slice L.rA x.removed.length L.rC,.int .u32 (x.al:Int),.int .u32 (x.next:Int),.int .u64 (x.seq:Int)]
structure kW (S:ba)(L:xb)(x:db):Prop where
 added:du S L.aA x.added.length x.added
 removed:ku S L.rA x.removed.length x.removed
 nums:∀f∈x.added,f.num<4294967296
 Mb:∀v∈x.removed,v<4294967296
 JP:x.added.length<=1100000
 JQ:x.removed.length<=1100000
 al:x.al<4294967296
 next:x.next<4294967296
 seq:x.seq<18446744073709551616
 O9:x.added.length<=L.aC
 Pa:x.removed.length<=L.rC
theorem kW.lift {S' S:ba}{L:xb}{x:db}(s:Sub S' S)(r:kW S L x):kW S' L x :=
 ⟨r.added.lift s,r.removed.lift s,r.nums,r.Mb,r.JP,r.JQ,r.al,r.next,r.seq,r.O9,r.Pa⟩
def ts (x:db)(S:ba)(w0:World)(e:Ending)(y:World):Prop :=
 (kh x.added=false/\e=.returned (.tuple #[.slice none 0 0,.int .i64 1])/\Mod y w0 S) \/
 (kh x.added=true/\∃A c,e=.returned (.tuple #[.slice A (de x).length c,.int .i64 0])/\Mod y w0 (ar 5 1 (.slice A (de x).length c) (de x).length (b7 (de x))*S))
theorem qo (L:xb)(x:db)(w w0:World)(S:ba)(m:Mod w w0 S)(r:kW S L x) :
 Calls Tryz.prog 121 #[.agg (jW L x)] w (ts x S w0):=by
 obtain⟨aA,aC,rA,rC⟩:=L;obtain⟨I,Y,jn,nx,sq⟩:=x;obtain⟨r1,r2,au,aa,aj,ak,hj,hx,hq,_,_⟩:=r;simp only at r1 r2 au aa aj ak hj hx hq;show Calls Tryz.prog _ #[.agg #[.slice aA I.length aC,.slice rA Y.length rC,.int .u32 (jn:Int),.int .u32 (nx:Int),.int .u64 (sq:Int)]] _ _;obtain⟨V,O⟩:∃V,I.length=V:=⟨_,rfl⟩;obtain⟨nr,U⟩:∃nr,Y.length=nr:=⟨_,rfl⟩;have af:=zbj O;have ag:=zbj U;rw[O]at r1 aj;rw[U]at r2 ak;rw[O,U];clear O U;have HF:=zbj (fun(u:World)(B:ba)(mu:Mod u w0 B)(ra:du B aA V I)=>uq aA V aC I u w0 B mu ra (by omega));have ay:IntKind.u64.wrap (jn:Int)=(jn:Int):=by rw[IntKind.wrap_u64];omega
 have az:IntKind.u64.wrap (nx:Int)=(nx:Int):=by rw[IntKind.wrap_u64];omega
 cases hf:kh I with
 | false =>
   rw[hf]at HF;have Hf:=zbj hf;clear hf ay az;go_enter Tryz.func121,Tryz.ntmps121
   go_wp2_with (go_at_call 178;refine(HF.out _ _ (Mod.alloc (m:=m) _) (r1.lift zbk)).mono ?_;rintro e w1 ⟨rfl,m1⟩)
   go_ret2
   exact .inl ⟨Hf.out,rfl,Mod.keep m1⟩
 | true =>
   rw[hf]at HF;have z:∀f∈I,oC f=true/\f.num<4294967296:=fun f J=>⟨(Xx.1 hf) f J,au f J⟩;have ah:=o7 lI 104 I fun f J=>wE (z f J).1 (z f J).2;have ai:=o7 ca 10 Y fun v hv=>cN (by have:=aa v hv;omega);rw[af.out]at ah;rw[ag.out]at ai;have av:=cN (n:=V) (by omega);have ax:=cN (n:=nr) (by omega);have aF:=cN (n:=jn) (by omega);have aG:=cN (n:=nx) (by omega);have Z:=zbj (fun(u:World)(B:ba)(mu:Mod u w0 B)(ra:du B aA V I)=>F2 none 0 0 [] aA V aC I u w0 B mu (bk.jE _) (by omega) ra (by omega) z);have Hf:=zbj hf;obtain⟨E,K⟩:∃E,ca V++I.flatMap lI=E:=⟨_,rfl⟩;have aB:E.length<=10+104*V:=by rw[<-K,Ze];omega
   obtain⟨X,M⟩:∃X,ca nr++Y.flatMap ca=X:=⟨_,rfl⟩;have aD:X.length<=10+10*nr:=by rw[<-M,Ze];omega
   rw[K]at Z;simp only[ZM,List.nil_append]at Z;have ae:=zbj (fun(A1:Option Addr)(c1:Nat)(u:World)(B:ba)(mu:Mod u w0 B)(rr:bk B A1 E.length (b7 E))(ra:ku B rA nr Y)=>F3 A1 E.length c1 E rA nr rC Y u w0 B mu rr (by omega) ra (by omega) aa);rw[M]at ae
   have HE:Hid (de ⟨I,Y,jn,nx,sq⟩=E++X++ca jn++ca nx++ca sq):=by
    show _=_;unfold de;simp only[af.out,ag.out,<-K,<-M,Zr]
   clear K M ah ai hf z av ax;go_enter Tryz.func121,Tryz.ntmps121
   have y:=True.intro
   go_wp2_with first
    | (go_at_call 178;clear y;refine(HF.out _ _ (Mod.alloc (m:=m) _) (r1.lift zbk)).mono ?_;rintro e w1 ⟨rfl,m1⟩)
   have y:=True.intro
   go_wp2_with first
    | (go_at_call 179;clear y;refine(Z.out _ _ m1 (r1.lift zbk)).mono ?_;rintro e w2 ⟨A2,c2,rfl,m2⟩)
   have y:=True.intro
   go_wp2_with first
    | (go_at_call 181;clear y;refine(ae.out A2 c2 _ _ m2 zbk (r2.lift zbk)).mono ?_;rintro e w3 ⟨A3,c3,rfl,m3⟩)
   refine wp_loop_rounds 4 ?_;rw[rounds_succ];have y:=True.intro
   go_wp2_with first
    | (go_at_call 64;clear y;refine(ol _ jn rfl A3 _ c3 (E++X) (by omega) _ w0 _ (Mod.alloc (m:=m3) _) zbk (by omega)).mono ?_;rintro e w4 ⟨A4,c4,rfl,m4⟩)
   rw[rounds_succ];have y:=True.intro
   go_wp2_with first
    | (go_at_call 64;clear y;refine(ol _ nx rfl A4 _ c4 (E++X++ca jn) (by omega) _ w0 _ m4 zbk (by omega)).mono ?_;rintro e w5 ⟨A5,c5,rfl,m5⟩)
   rw[rounds_succ];have y:=True.intro
   go_wp2_with first
    | (go_at_call 64;clear y;refine(ol _ sq rfl A5 _ c5 (E++X++ca jn++ca nx) (by omega) _ w0 _ m5 zbk (by omega)).mono ?_;rintro e w6 ⟨A6,c6,rfl,m6⟩)
   rw[rounds_succ];go_wp2_with fail
   go_ret2
   have el:(de ⟨I,Y,jn,nx,sq⟩).length=E.length+X.length+(ca jn).length+(ca nx).length+(ca sq).length:=by rw[HE.out];simp only[Ze]
   refine .inr ⟨Hf.out,A6,c6,?_,?_⟩
   ·rw[el];rfl
   ·rw[el,HE.out];exact Mod.keep m6
end Go.Proofs.YtdfppjcaelghhaaGreatDoor
namespace Go.Sl
def sa (b:List UInt8):Option Nat:=(b.take 10).findIdx? (fun c=>decide (c.toNat<128))
def ky:List UInt8->Nat
 | []=>0
 | c::l=>ky l*128+c.toNat%128
def jr (b:List UInt8):Nat×Nat×Nat:=match sa b with
 | none=>if b.length<10 then (0,0,5)else (0,0,4)
 | some e=>if (0<e/\(b.getD e 0).toNat=0)\/(e=9/\1<(b.getD e 0).toNat)then (0,0,4)else (ky (b.take (e+1)),e+1,0)
theorem zd {b:List UInt8}{e:Nat}(h:sa b=some e):e<b.length/\e<10/\(b.getD e 0).toNat<128:=by
 unfold sa at h;obtain⟨B,y,_⟩:=Zk.1 h;rw[Zt]at B;have z:e<b.length:=by omega
 refine⟨z,by omega,?_⟩;rw[YU]at y;rw[Zw,Zg z];simpa using y
theorem zt (b:List UInt8):(jr b).2.1<=b.length:=by
 unfold jr
 cases h:sa b with
 | none=>simp only;split <;> simp
 | some e =>
   have:=zd h;simp only
   split
   ·simp
   ·show e+1≤_;omega
theorem Ef:∀(l:List UInt8),ky l<128 ^ l.length
 | []=>by simp[ky]
 | c::l=>by
   have:=Ef l;simp only[ky,List.length_cons,Nat.pow_succ];omega
theorem zH (x:UInt8):∀(l:List UInt8),ky (l++[x])=ky l+128 ^ l.length*(x.toNat%128)
 | []=>by simp[ky]
 | c::l=>by
   simp only[List.cons_append,ky,zH x l,List.length_cons,Nat.pow_succ,zbi];have:128 ^ l.length*(x.toNat%128)*128=128 ^ l.length*128*(x.toNat%128):=by rw[Nat.mul_assoc,Nat.mul_comm (x.toNat%128),<-Nat.mul_assoc]
   omega
theorem zG:∀(l:List UInt8)(r:Nat),ky (l.drop r)<=ky l
 | [],r=>by simp
 | c::l,0=>Zm _
 | c::l,r+1=>by
   have:=zG l r;simp only[ZY,ky];omega
theorem xH {b:List UInt8}{e:Nat}(h:sa b=some e)(O:¬(e=9/\1<(b.getD e 0).toNat)):ky (b.take (e+1))<18446744073709551616:=by
 obtain⟨z,U,V⟩:=zd h
 have B:b.take (e+1)=b.take e++[b.getD e 0]:=by
  rw[Zx z,Zw,Zg z];rfl
 rw[B,zH];have K:(b.take e).length=e:=by rw[Zt];omega
 have J:=Ef (b.take e);rw[K]at J ⊢;have y:128 ^ e<=128 ^ 9:=XQ (by omega) (by omega);by_cases I:e=9
 ·have M:(b.getD e 0).toNat%128<=1:=by omega
  have:=Nat.mul_le_mul (Zm (128 ^ e)) M;subst I;omega
 ·have E:128 ^ e<=128 ^ 8:=XQ (by omega) (by omega)
  have:=Nat.mul_le_mul E (show (b.getD e 0).toNat%128<=127 by omega);omega
theorem uz {b:List UInt8}{e r:Nat}(B:r<=e)(z:e<b.length):ky ((b.take (e+1)).drop r)=ky ((b.take (e+1)).drop (r+1))*128+(b.getD r 0).toNat%128:=by
 have y:r<(b.take (e+1)).length:=by rw[Zt];omega
 rw[Ya y];simp only[ky];rw[YU,Zw,Zg (by omega)];rfl
end Go.Sl
namespace Go.Proofs.YtdfppjcaelghhaaGreatDoor
open Go.RowKit Go.Sl
attribute [local go_sem] ab bj bh bd
theorem Gn (x:UInt8)(w w0:World)(S:ba)(m:Mod w w0 S):Calls Tryz.prog 227 #[.int .u8 (x.toNat:Int)] w fun e z=>e=.returned (.bool (decide (x.toNat<128)))/\Mod z w0 S:=by
 by_cases h:x.toNat<128
 ·have y:(x.toNat:Int)<128:=by omega
  rw[decide_eq_true h];go_enter Tryz.func227,Tryz.ntmps227
  go_wp2_with fail
  go_ret
  exact⟨rfl,m⟩
 ·have y:¬(x.toNat:Int)<128:=by omega
  rw[decide_eq_false h];go_enter Tryz.func227,Tryz.ntmps227
  go_wp2_with fail
  go_ret
  exact⟨rfl,m⟩
def sU:Option Nat->Int
 | some i=>(i:Int)
 | none => -1
theorem Ea (A:Option Addr)(n c:Nat)(l:List UInt8)(w w0:World)(S:ba)(m:Mod w w0 S)(r:bk S A n (b7 l))(hn:n<=1000000000) :
 Calls Tryz.prog 226 #[.slice A n c,.func (.func 227) #[] #[]] w fun e w'=>e=.returned (.int .i64 (sU (l.findIdx? fun c=>decide (c.toNat<128))))/\Mod w' w0 S:=by
 have Y:=fp m r;rw[fg]at Y;have Hl:=zbj Y;obtain⟨z,Z⟩:∃z,l.findIdx? (fun c=>decide (c.toNat<128))=z:=⟨_,rfl⟩;rw[Z];have Hz:=zbj Z;have R:=zbj r;clear r Z Y;go_enter Tryz.func226,Tryz.ntmps226
 go_wp2_with fail
 go_loopg [8] n (fun gk iv wr=>∃i:Nat,i<=n/\gk=n-i/\iv=.int .i64 (i:Int)/\Hid (∀j (_:j<l.length),j<i->¬l[j].toNat<128)/\Mod wr w0 S)
 case atStart=>exact⟨0,Zv _,rfl,rfl,(fun j _ I=>by omega),m⟩
 case round =>
  obtain⟨i,hi,aa,rfl,y,U⟩:=hrel;by_cases K:i<n
  ·have X:(i:Int)<(n:Int):=by omega
   have J:i<l.length:=by rw[Hl.out];exact K
   obtain⟨ad,ha,M,V⟩:=cP U R.out (by omega);clear V;obtain⟨b,o,sp⟩:=ad;simp only at M;subst M ha;have c0:bw S b (o+i) (.int .u8 (l[i].toNat:Int)):=eL R.out (by omega) i (by simp[b7,J]);have O:=zbj (fun(u:World)(mu:Mod u w0 S)=>Gn l[i] u w0 S mu);by_cases hp:l[i].toNat<128
   ·rw[decide_eq_true hp]at O
    have B:Hid (z=some i):=by
     show _=_;rw[<-Hz.out,Zk];exact⟨J,decide_eq_true hp,fun j I=>by simpa using y.out j (by omega) I⟩
    clear hp;generalize l[i]=f at *;go_wp2_with (go_at_call 227;refine(O.out _ U).mono ?_;rintro e w1 ⟨rfl,m2⟩)
    (try rw[Exit.noGoto_ret])
    go_ret
    exact⟨by rw[B.out];rfl,m2⟩
   ·rw[decide_eq_false hp]at O
    have E:Hid (∀j (_:j<l.length),j<i+1->¬l[j].toNat<128):=fun j I ae=>by
     by_cases e:j=i
     ·subst e;exact hp
     ·exact y.out j I (by omega)
    clear hp;generalize l[i]=f at *;go_wp2_with (go_at_call 227;refine(O.out _ U).mono ?_;rintro e w1 ⟨rfl,m2⟩)
    go_roundg (n-(i+1))
    case measure=>omega
    case rel=>exact⟨i+1,K,rfl,by go_num,E,m2⟩
  ·have X:¬(i:Int)<(n:Int):=by omega
   have B:Hid (z=none):=by
    show _=_;rw[<-Hz.out,ZV];intro x hx;obtain⟨j,I,rfl⟩:=ZI.1 hx;exact decide_eq_false (y.out j I (by have:=Hl.out;omega))
   go_wp2_with fail
   go_ret
   exact⟨by rw[B.out];rfl,U⟩
theorem GL (V:Nat)(y:UInt8)(I:V*128<18446744073709551616):bits .or .u64 ((V:Int)*128) (IntKind.u64.wrap (bits .andNot .u8 (y.toNat:Int) 128))=((V*128+y.toNat%128:Nat):Int):=by
 have h:∀x:Fin 256,bits .andNot .u8 (x.val:Int) 128=((x.val%128:Nat):Int):=by decide +kernel
 have z:=h ⟨y.toNat,y.toNat_lt⟩;simp only at z;have B:IntKind.u64.wrap ((y.toNat%128:Nat):Int)=((y.toNat%128:Nat):Int):=by rw[IntKind.wrap_u64];omega
 have E:((V:Int)*128)=((V*128:Nat):Int):=by omega
 rw[z,B,E,u64_or_nat _ _ (by omega) (by omega),nat_join 7 (V*128) (y.toNat%128) (by omega) (by omega)]
def Ph (b:List UInt8)(e:Nat):Prop:=¬((0<e/\(b.getD e 0).toNat=0)\/(e=9/\1<(b.getD e 0).toNat))
theorem Cd (A:Option Addr)(n c:Nat)(b:List UInt8)(w w0:World)(S:ba)(m:Mod w w0 S)(r:bk S A n (b7 b))(hn:n<=1000000000)(hc:n<=c) :
 Calls Tryz.prog 164 #[.slice A n c] w fun e w'=>e=.returned (.tuple #[.int .u64 ((jr b).1:Int),.int .i64 ((jr b).2.1:Int),.int .i64 ((jr b).2.2:Int)])/\Mod w' w0 S:=by
 have hl:=fp m r;rw[fg]at hl;obtain⟨k,hk⟩:∃k,min n 10=k:=⟨_,rfl⟩;have aB:min (n:Int) 10=(k:Int):=by omega
 have rk:bk S A k (b7 (b.take 10)):=by
  have h:=r.pre k (by omega)
  have e:(b7 b).take k=b7 (b.take 10):=by
   rw[<-hk];by_cases af:n<=10
   ·rw[YJ af,Zn (by rw[fg];omega),Zn (by omega)]
   ·rw[Nat.min_eq_right (by omega)];simp[b7]
  rwa [e]at h
 have Y:=zbj (fun(u:World)(mu:Mod u w0 S)=>Ea A k c (b.take 10) u w0 S mu rk (by omega));obtain⟨z,Z⟩:∃z,jr b=z:=⟨_,rfl⟩;rw[Z];have Hz:=zbj Z;have Hl:=zbj hl;have aD:k<=n:=by omega
 clear Z rk hk
 cases X:sa b with
 | none =>
   have I:=X;unfold sa at I;rw[I]at Y;by_cases af:n<10
   ·have ae:z=(0,0,5):=by rw[<-Hz.out];unfold jr;rw[X];simp only;rw[if_pos (by omega)]
    subst ae;have ag:(n:Int)<10:=by omega
    clear X I hl;go_enter Tryz.func164,Tryz.ntmps164
    go_wp2_with (go_at_call 226;refine(Y.out _ m).mono ?_;rintro e w1 ⟨rfl,K⟩;simp only[sU])
    go_ret3
    exact⟨rfl,K⟩
   ·have ae:z=(0,0,4):=by rw[<-Hz.out];unfold jr;rw[X];simp only;rw[if_neg (by omega)]
    subst ae;have ag:¬(n:Int)<10:=by omega
    clear X I hl;go_enter Tryz.func164,Tryz.ntmps164
    go_wp2_with (go_at_call 226;refine(Y.out _ m).mono ?_;rintro e w1 ⟨rfl,K⟩;simp only[sU])
    go_ret3
    exact⟨rfl,K⟩
 | some e =>
   have I:=X;unfold sa at I;rw[I]at Y;obtain⟨h1,h2,h3⟩:=zd X;have az:e<n:=by omega
   obtain⟨ad,hA,aj,av⟩:=cP m r (by omega);clear av;obtain⟨bb,o,sp⟩:=ad;simp only at aj;subst aj hA;obtain⟨x,hx⟩:∃x,b.getD e 0=x:=⟨_,rfl⟩;have cx:bw S bb (o+e) (.int .u8 (x.toNat:Int)):=eL r (by omega) e (by rw[<-hx,Zw,Zg h1];simp[b7,h1]);have aF:x.toNat<128:=by rw[<-hx];exact h3
   have He:=zbj X
   have hg:z=if (0<e/\x.toNat=0)\/(e=9/\1<x.toNat)then (0,0,4)else (ky (b.take (e+1)),e+1,0):=by
    rw[<-Hz.out];unfold jr;rw[X];simp only[hx]
   have Hx:=zbj hx;clear X I h3 hx hl;have ay:(n:Int)<=(c:Int):=by omega
   by_cases hP:(0<e/\x.toNat=0)\/(e=9/\1<x.toNat)
   ·rw[if_pos hP]at hg
    subst hg;have au:(0<e/\x.toNat=0)\/(0<e/\¬x.toNat=0/\e=9/\1<x.toNat):=by omega
    clear hP;rcases au with⟨p1,p2⟩ | ⟨p1,p2,p3,p4⟩
    ·have q1:(0:Int)<(e:Int):=by omega
     have q2:((x.toNat:Int)==0)=true:=by rw[beq_iff_eq];omega
     have q3:(x.toNat:Int)=0:=by omega
     have q4:¬(e:Int)<0:=by omega
     clear p1 p2;go_enter Tryz.func164,Tryz.ntmps164
     go_wp2_with (go_at_call 226;refine(Y.out _ m).mono ?_;rintro e w1 ⟨rfl,K⟩;simp only[sU])
     go_ret3
     exact⟨rfl,K⟩
    ·subst p3
     have q2:((x.toNat:Int)==0)=false:=beq_eq_false_iff_ne.2 (by omega);have q5:(1:Int)<(x.toNat:Int):=by omega
     clear p1 p2 p4;go_enter Tryz.func164,Tryz.ntmps164
     go_wp2_with (go_at_call 226;refine(Y.out _ m).mono ?_;rintro e w1 ⟨rfl,K⟩;simp only[sU])
     go_ret3
     exact⟨rfl,K⟩
   ·rw[if_neg hP]at hg
    subst hg;have hS:=xH He.out (by rw[Hx.out];exact fun h=>hP (.inr h));have HS:=zbj (fun r=>Nat.lt_of_le_of_lt (zG (b.take (e+1)) r) hS);have aa:e=0\/(0<e/\¬x.toNat=0/\¬e=9)\/(e=9/\¬x.toNat=0/\¬1<x.toNat):=by omega
    have R:=zbj r;have ax:=zbj h1;clear hP hS;rcases aa with rfl | ⟨p1,p2,p3⟩ | ⟨rfl,p2,p3⟩
    ·go_enter Tryz.func164,Tryz.ntmps164
     go_wp2_with (go_at_call 226;refine(Y.out _ m).mono ?_;rintro e w1 ⟨rfl,K⟩;simp only[sU,Int.natCast_zero])
     clear cx;go_loopg [2,6] (0+1) (fun gk vn vi wr=>∃(r:Nat)(z:Int),r<=0+1/\gk=r/\z+1=(r:Int)/\vi=.int .i64 z/\vn=.int .u64 ((ky ((b.take (0+1)).drop r):Nat):Int)/\Mod wr w0 S)
     case atStart=>exact⟨0+1,0,Zm _,rfl,by omega,rfl,by rw[Yj (by rw[Zt];exact Xq _ _)];rfl,K⟩
     case round =>
      obtain⟨r,z,hr,ah,Z,rfl,rfl,m2⟩:=hrel
      cases r with
      | zero =>
        obtain rfl:z = -1:=by omega
        rw[Z6];go_wp2_with fail
        (try rw[Exit.noGoto_ret])
        go_ret3
        exact⟨rfl,m2⟩
      | succ q =>
        obtain rfl:z=(q:Int):=by omega
        have B:=uz (b:=b) (e:=0) (r:=q) (by omega) (by omega);have E:=HS.out q;rw[B]at E;obtain⟨y,U⟩:∃y,b.getD q 0=y:=⟨_,rfl⟩;rw[U]at B E;have J:q<b.length:=by omega
        have cy:bw S bb (o+q) (.int .u8 (y.toNat:Int)):=eL R.out (by omega) q (by rw[<-U,Zw,Zg J];simp[b7,J]);have O:=zbj B;have ak:=y.toNat_lt;clear B U Z;generalize ky ((b.take (0+1)).drop (q+1))=V at *;have hV:V*128<18446744073709551616:=by omega
        have ai:(q:Int)<(n:Int):=by omega
        have M:=zbj (GL V y hV);clear E;go_wp2_with fail
        go_roundg q
        case measure=>omega
        case rel=>exact⟨q,(q:Int)-1,by omega,rfl,by omega,rfl,by rw[O.out,<-M.out],m2⟩
    ·have q1:(0:Int)<(e:Int):=by omega
     have q2:((x.toNat:Int)==0)=false:=beq_eq_false_iff_ne.2 (by omega);have q3:((e:Int)==9)=false:=beq_eq_false_iff_ne.2 (by omega);have q4:¬(e:Int)<0:=by omega
     clear p1 p2 p3;go_enter Tryz.func164,Tryz.ntmps164
     go_wp2_with (go_at_call 226;refine(Y.out _ m).mono ?_;rintro e w1 ⟨rfl,K⟩;simp only[sU])
     clear cx;go_loopg [2,6] (e+1) (fun gk vn vi wr=>∃(r:Nat)(z:Int),r<=e+1/\gk=r/\z+1=(r:Int)/\vi=.int .i64 z/\vn=.int .u64 ((ky ((b.take (e+1)).drop r):Nat):Int)/\Mod wr w0 S)
     case atStart=>exact⟨e+1,(e:Int),Zm _,rfl,by omega,rfl,by rw[Yj (by rw[Zt];exact Xq _ _)];rfl,K⟩
     case round =>
      obtain⟨r,z,hr,ah,Z,rfl,rfl,m2⟩:=hrel
      cases r with
      | zero =>
        obtain rfl:z = -1:=by omega
        rw[Z6];go_wp2_with fail
        (try rw[Exit.noGoto_ret])
        go_ret3
        exact⟨rfl,m2⟩
      | succ q =>
        obtain rfl:z=(q:Int):=by omega
        have B:=uz (b:=b) (e:=e) (r:=q) (by omega) (by omega);have E:=HS.out q;rw[B]at E;obtain⟨y,U⟩:∃y,b.getD q 0=y:=⟨_,rfl⟩;rw[U]at B E;have J:q<b.length:=by omega
        have cy:bw S bb (o+q) (.int .u8 (y.toNat:Int)):=eL R.out (by omega) q (by rw[<-U,Zw,Zg J];simp[b7,J]);have O:=zbj B;have ak:=y.toNat_lt;clear B U Z;generalize ky ((b.take (e+1)).drop (q+1))=V at *;have hV:V*128<18446744073709551616:=by omega
        have ai:(q:Int)<(n:Int):=by omega
        have M:=zbj (GL V y hV);clear E;go_wp2_with fail
        go_roundg q
        case measure=>omega
        case rel=>exact⟨q,(q:Int)-1,by omega,rfl,by omega,rfl,by rw[O.out,<-M.out],m2⟩
    ·have q2:((x.toNat:Int)==0)=false:=beq_eq_false_iff_ne.2 (by omega)
     have q5:¬(1:Int)<(x.toNat:Int):=by omega
     clear p2 p3;go_enter Tryz.func164,Tryz.ntmps164
     go_wp2_with (go_at_call 226;refine(Y.out _ m).mono ?_;rintro e w1 ⟨rfl,K⟩;simp only[sU])
     clear cx;go_loopg [2,6] (9+1) (fun gk vn vi wr=>∃(r:Nat)(z:Int),r<=9+1/\gk=r/\z+1=(r:Int)/\vi=.int .i64 z/\vn=.int .u64 ((ky ((b.take (9+1)).drop r):Nat):Int)/\Mod wr w0 S)
     case atStart=>exact⟨9+1,9,Zm _,rfl,by omega,rfl,by rw[Yj (by rw[Zt];exact Xq _ _)];rfl,K⟩
     case round =>
      obtain⟨r,z,hr,ah,Z,rfl,rfl,m2⟩:=hrel
      cases r with
      | zero =>
        obtain rfl:z = -1:=by omega
        rw[Z6];go_wp2_with fail
        (try rw[Exit.noGoto_ret])
        go_ret3
        exact⟨rfl,m2⟩
      | succ q =>
        obtain rfl:z=(q:Int):=by omega
        have B:=uz (b:=b) (e:=9) (r:=q) (by omega) (by omega);have E:=HS.out q;rw[B]at E;obtain⟨y,U⟩:∃y,b.getD q 0=y:=⟨_,rfl⟩;rw[U]at B E;have J:q<b.length:=by omega
        have cy:bw S bb (o+q) (.int .u8 (y.toNat:Int)):=eL R.out (by omega) q (by rw[<-U,Zw,Zg J];simp[b7,J]);have O:=zbj B;have ak:=y.toNat_lt;clear B U Z;generalize ky ((b.take (9+1)).drop (q+1))=V at *;have hV:V*128<18446744073709551616:=by omega
        have ai:(q:Int)<(n:Int):=by omega
        have M:=zbj (GL V y hV);clear E;go_wp2_with fail
        go_roundg q
        case measure=>omega
        case rel=>exact⟨q,(q:Int)-1,by omega,rfl,by omega,rfl,by rw[O.out,<-M.out],m2⟩
end Go.Proofs.YtdfppjcaelghhaaGreatDoor
namespace Go.Sl
def qu (b:List UInt8):List UInt8×Nat×Nat :=
 if (jr b).2.2≠0 then ([],0,(jr b).2.2)
 else if b.length-(jr b).2.1<(jr b).1 then ([],0,5)
 else ((b.drop (jr b).2.1).take (jr b).1,(jr b).2.1+(jr b).1,0)
theorem Lz (b:List UInt8):(jr b).2.2=0\/(jr b).2.2=4\/(jr b).2.2=5:=by
 unfold jr
 split
 ·split <;> simp
 ·split <;> simp
theorem LA {b:List UInt8}(h:(jr b).2.2=0):1<=(jr b).2.1:=by
 unfold jr at h ⊢
 cases y:sa b with
 | none =>
   rw[y]at h;simp only at h
   split at h <;> cases h
 | some e =>
   rw[y]at h;simp only at h ⊢
   split at h
   ·cases h
   ·rename_i hn
    rw[if_neg hn];show 1<=e+1;omega
theorem zu (b:List UInt8):(jr b).1<18446744073709551616:=by
 unfold jr
 cases h:sa b with
 | none=>simp only;split <;> decide
 | some e =>
   simp only
   split
   ·decide
   ·rename_i hn
    exact xH h fun y=>hn (.inr y)
theorem Ly (b:List UInt8):(qu b).2.1<=b.length:=by
 have:=zt b;unfold qu
 split
 ·simp
 ·split
  ·simp
  ·show (jr b).2.1+(jr b).1≤_
   omega
end Go.Sl
namespace Go.Proofs.YtdfppjcaelghhaaGreatDoor
open Go.RowKit Go.Sl
attribute [local go_sem] ab bj bh bd tu
theorem Bm (A:Option Addr)(n c:Nat)(b:List UInt8)(w w0:World)(S:ba)(m:Mod w w0 S)(r:bk S A n (b7 b))(hn:n<=1000000000)(hc:n<=c) :
 Calls Tryz.prog 225 #[.slice A n c] w fun e w'=>e=.returned (.tuple #[.string ⟨(qu b).1.toArray⟩,.int .i64 ((qu b).2.1:Int),.int .i64 ((qu b).2.2:Int)])/\Mod w' w0 S:=by
 have K:=fp m r;rw[fg]at K;have M:=zbj (Cd A n c b w w0 S m r hn hc);have hk:=zt b;have U:=Lz b;have hs:=zu b;have V:(jr b).2.2=0->1<=(jr b).2.1:=LA;obtain⟨z,hz⟩:∃z,qu b=z:=⟨_,rfl⟩;have B:z=if (jr b).2.2≠0 then ([],0,(jr b).2.2)else if b.length-(jr b).2.1<(jr b).1 then ([],0,5)else ((b.drop (jr b).2.1).take (jr b).1,(jr b).2.1+(jr b).1,0):=by rw[<-hz];rfl
 rw[hz];clear hz;generalize jr b=g at *;obtain⟨v,k,Y⟩:=g;simp only at hk U hs B M V;rw[K]at hk B;by_cases Z:Y=0
 ·subst Z
  rw[if_neg (by simp)]at B;by_cases O:n-k<v
  ·rw[if_pos O]at B
   subst B;have hw:IntKind.u64.wrap ((n:Int)-(k:Int))=((n-k:Nat):Int):=by rw[IntKind.wrap_u64];omega
   have E:((n-k:Nat):Int)<(v:Int):=by omega
   have af:(k:Int)<=(n:Int):=by omega
   clear U K m r O;go_enter Tryz.func225,Tryz.ntmps225
   go_wp2_with (go_at_call 164;refine M.out.mono ?_;rintro e w1 ⟨rfl,J⟩)
   go_ret3
   exact⟨rfl,J⟩
  ·rw[if_neg O]at B
   subst B;have hw:IntKind.u64.wrap ((n:Int)-(k:Int))=((n-k:Nat):Int):=by rw[IntKind.wrap_u64];omega
   have E:¬((n-k:Nat):Int)<(v:Int):=by omega
   have af:(k:Int)<=(n:Int):=by omega
   have av:IntKind.i64.wrap (v:Int)=(v:Int):=by rw[IntKind.wrap_i64];omega
   have au:k+v<=n:=by omega
   have ak:(k:Int)+(v:Int)<=(c:Int):=by omega
   obtain⟨ad,hA,X,aa⟩:=cP m r (by omega);clear aa;obtain⟨bb,o,sp⟩:=ad;simp only at X;subst X hA;obtain⟨part,y⟩:∃part,(b.drop k).take v=part:=⟨_,rfl⟩
   have rp:bk S (some ⟨bb,o+k,none⟩) v (b7 part):=by
    have h:=r.sub k v (by omega);rw[Bb,jl _ _ rfl,y]at h;exact h
   have I:part.length=v:=by rw[<-y,Zt,ZF];omega
   rw[y];by_cases ae:c=k
   ·subst ae
    have ah:v=0:=by omega
    subst ah;have ag:part=[]:=Zo I;subst ag;have ax:bk S (some ⟨bb,o,none⟩) 0 (b7 []):=bk.jE _;clear U K m O E y rp I;go_enter Tryz.func225,Tryz.ntmps225
    go_wp2_with (go_at_call 164;refine M.out.mono ?_;rintro e w1 ⟨rfl,J⟩)
    go_ret3
    exact⟨rfl,J⟩
   ·clear U K m O E y I
    go_enter Tryz.func225,Tryz.ntmps225
    go_wp2_with (go_at_call 164;refine M.out.mono ?_;rintro e w1 ⟨rfl,J⟩)
    go_ret3
    exact⟨rfl,J⟩
 ·rw[if_pos (by simpa using Z)]at B
  subst B;have ai:((Y:Int)==0)=false:=beq_eq_false_iff_ne.2 (by omega);have aj:((Y:Int)!=0)=true:=bne_iff_ne.2 (by omega);clear U K m r hs hk Z V;go_enter Tryz.func225,Tryz.ntmps225
  go_wp2_with (go_at_call 164;refine M.out.mono ?_;rintro e w1 ⟨rfl,J⟩)
  go_ret3
  exact⟨rfl,J⟩
end Go.Proofs.YtdfppjcaelghhaaGreatDoor
namespace Go.Sl
open Go
abbrev K4:=List UInt8×Bool
def pt (s:K4):List UInt8×K4:=((qu s.1).1,(s.1.drop (qu s.1).2.1,s.2 || !(decide ((qu s.1).2.2=0))))
def Pi:Nat:=4294967295
end Go.Sl
namespace Go.Proofs.YtdfppjcaelghhaaGreatDoor
open Go.RowKit Go.Sl
attribute [local go_sem] ab bj bh bd
theorem qB {w w0:World}{S T:ba} [m:Mod w w0 S](h:S=T):Mod w w0 T:=h▸m
theorem KD:(Tryz.prog.info? 44).map (·.size)=some 4:=by kernel_rfl
theorem pB {X F G:ba}(h:Sub F G):Sub (X*F) G:=Sub.right X F G (s:=h)
end Go.Proofs.YtdfppjcaelghhaaGreatDoor
namespace Go.Sl
open Go
end Go.Sl
namespace Go.Proofs.YtdfppjcaelghhaaGreatDoor
open Go.RowKit Go.Sl
attribute [local go_sem] ab bj bh bd
instance Oh:yH Tryz.prog 40 44 4 48:=⟨Tryz.underlying40,by kernel_rfl⟩
instance OA:wl Tryz.prog 128 42 4:=⟨Tryz.underlying128,by kernel_rfl⟩
theorem qq (f:bi):∀u∈f.cells,u.oneCell'=true:=by
 intro u y;simp only[bi.cells,Zu,XB,or_false]at y;rcases y with rfl | rfl | rfl | rfl <;> rfl
end Go.Proofs.YtdfppjcaelghhaaGreatDoor
namespace Go.Sl
open Go
theorem Ik:∀(n:Nat),∃(y:List UInt8)(x:UInt8),ca n=y++[x]/\(∀c∈y,¬c.toNat<128)/\x.toNat<128/\x.toNat*128 ^ y.length<=n/\(y≠[]->x.toNat≠0)/\ky (ca n)=n:=by
 intro n
 induction n using Nat.strongRecOn with
 | ind n O =>
   by_cases h:n<128
   ·have e:(UInt8.ofNat n).toNat=n:=by rw[UInt8.toNat_ofNat'];omega
    refine⟨[],UInt8.ofNat n,nR h,(fun c z=>by cases z),by omega,by simp[e],by simp,?_⟩;rw[nR h];simp only[ky,e];omega
   ·obtain⟨y,x,E,J,K,U,M,B⟩:=O (n / 128) (by omega)
    have e:(UInt8.ofNat (n%128+128)).toNat=n%128+128:=by rw[UInt8.toNat_ofNat'];omega
    refine⟨UInt8.ofNat (n%128+128)::y,x,by rw[vZ h,E];rfl,?_,K,?_,?_,?_⟩
    ·intro c z
     rcases Zu.1 z with rfl | z
     ·rw[e];omega
     ·exact J c z
    ·rw[List.length_cons,Nat.pow_succ,<-Nat.mul_assoc]
     omega
    ·intro _
     by_cases I:y=[]
     ·subst I
      rw[E]at B;simp only[List.nil_append,ky]at B;omega
     ·exact M I
    ·rw[vZ h]
     simp only[ky,e,B];omega
theorem B9 {n:Nat}(hn:n<18446744073709551616)(r:List UInt8):jr (ca n++r)=(n,(ca n).length,0):=by
 have K:=cN hn;obtain⟨y,x,B,M,O,U,V,X⟩:=Ik n;have Z:(ca n).length=y.length+1:=by rw[B];simp
 have Y:sa (ca n++r)=some y.length:=by
  unfold sa;rw[Zk]
  have hx:((ca n++r).take 10)[y.length]?=some x:=by
   rw[Xp,if_pos (by omega),B,Zr,Z7 (Zm _),zae];rfl
  obtain⟨z,E⟩:=Yd.1 hx;refine⟨z,by rw[E];exact decide_eq_true O,fun j I=>?_⟩
  have J:((ca n++r).take 10)[j]?=some y[j]:=by
   rw[Xp,if_pos (by omega),B,Zr,Yz I];exact Zg I
  obtain⟨p1,p2⟩:=Yd.1 J;rw[p2];simpa using M _ (Zq I)
 have hd:(ca n++r).getD y.length 0=x:=by
  rw[Zw,B,Zr,Z7 (Zm _),zae];rfl
 unfold jr;rw[Y];simp only[hd];rw[if_neg]
 ·rw[<-Z,XC,X]
 ·rintro(⟨z,E⟩ | ⟨z,E⟩)
  ·exact V (by intro h;rw[h]at z;simp at z) E
  ·rw[z]at U
   have:2*128 ^ 9<=x.toNat*128 ^ 9:=Xw _ (by omega);omega
theorem Gi {s:ByteArray}(B:s.size<=1000000)(r:List UInt8):qu (fk s++r)=(s.data.toList,(fk s).length,0):=by
 have e:s.data.toList.length=s.size:=by rw[Array.length_toList];rfl
 have z:jr (fk s++r)=(s.size,(ca s.size).length,0):=by
  unfold fk;rw[Zr,B9 (by omega)]
 have y:(fk s).length=(ca s.size).length+s.size:=by unfold fk;rw[Ze,e]
 unfold qu;simp only[z];rw[if_neg (by simp),if_neg (by rw[Ze,y];omega)];refine Prod.ext ?_ (Prod.ext ?_ rfl)
 ·show ((fk s++r).drop (ca s.size).length).take s.size=_
  unfold fk;rw[Zr,za1,<-e,XC]
 ·show (ca s.size).length+s.size=_
  rw[y]
theorem xT {s:ByteArray}(z:s.size<=1000000)(r:List UInt8)(y:Bool):pt (fk s++r,y)=(s.data.toList,(r,y)):=by
 unfold pt;simp only[Gi z r];rw[za1];simp
end Go.Sl
namespace Go.Proofs.YtdfppjcaelghhaaGreatDoor
open Go Go.Sl
structure yC (x:db):Prop where
 fine:kh x.added=true
 nums:∀f∈x.added,f.num<4294967296
 Mb:∀v∈x.removed,v<4294967296
 JP:x.added.length<18446744073709551616
 JQ:x.removed.length<18446744073709551616
 al:x.al<4294967296
 next:x.next<4294967296
 seq:x.seq<18446744073709551616
open Go.RowKit Go.Sl
attribute [local go_sem] ab bj bh bd tu
theorem xh (A B:Option Addr)(n k c d:Nat)(xs y:List UInt8)(w w0:World)(S:ba)(m:Mod w w0 S)(E:bk S A n (b7 xs))(I:bk S B k (b7 y)) :
 Calls Tryz.prog 162 #[.slice A n c,.slice B k d] w fun e z=>e=.returned (.bool (decide (xs=y)))/\Mod z w0 S:=by
 go_enter Tryz.func162,Tryz.ntmps162
 go_wp2_with fail
 go_ret
 exact⟨by by_cases h:xs=y <;> simp[h],m⟩
end Go.Proofs.YtdfppjcaelghhaaGreatDoor
