/- Plain lemmas and contracts; the conditions are in each. -/
import Derived.Test.YtdfppjcaelghhaaGreatDoorEnAG
import Derived.Test.YtdfppjcaelghhaaGreatDoorEnEG
import Derived.Test.YtdfppjcaelghhaaGreatDoorEnPG
set_option maxHeartbeats 8000000
set_option maxRecDepth 8000
namespace Go.Proofs.YtdfppjcaelghhaaGreatDoor
open Go.RowKit Go.Sl
attribute [local go_sem] ab bj bh bd
abbrev fU (g:Nat)(A:Option Addr)(n c i y:Nat):ba:=aE g (.cells #[.slice A n c,.int .i64 (i:Int),.int .i64 (y:Int)] 231 (0,0))
theorem iD (g:Nat)(A:Option Addr)(n c i k y:Nat)(z:i+k<=1000000000)(w w0:World)(F:ba)(m:Mod w w0 (fU g A n c i 0*F)) :
 Calls Tryz.prog 165 #[ap g,.int .i64 (k:Int),.int .i64 (y:Int)] w fun e B=>e=.returned (.tuple #[])/\Mod B w0 (fU g A n c (i+k) y*F):=by
 go_enter Tryz.func165,Tryz.ntmps165
 go_wp2_with fail
 go_end0
 refine⟨rfl,?_⟩;exact qB (by simp only[Zb,Zc,Zd,b9];rfl)
theorem Qx (g:Nat)(A:Option Addr)(n c i:Nat)(b:List UInt8)(v:Bool)(rest:List UInt8)(B:b.drop i=sK v::rest)(hl:b.length=n)(hn:n<=900000000)(hc:n<=c)(w w0:World)(F:ba)(r:bk F A n (b7 b))(m:Mod w w0 (fU g A n c i 0*F)) :
 Calls Tryz.prog 166 #[ap g] w fun e w'=>e=.returned (.int .u8 ((sK v).toNat:Int))/\Mod w' w0 (fU g A n c (i+1) 0*F):=by
 have Z:i<n:=by
  have z:=congrArg List.length B;rw[ZF,List.length_cons]at z;omega
 obtain⟨⟨J,o,s⟩,V,I,_⟩:=cP m (ct (zbk:Sub _ F) r) oMg;have I:s=none:=I;subst I V
 have M:(b7 b)[i]?=some (.int .u8 ((sK v).toNat:Int)):=by
  have z:(b.drop i)[0]?=some (sK v):=by rw[B];rfl
  rw[za2,Nat.add_zero]at z;unfold b7;rw[Yc,z];rfl
 have U:=eL r oMg i M;have E:¬(1:Int)<((sK v).toNat:Int):=by cases v <;> decide
 obtain⟨K,y⟩:∃K,(sK v).toNat=K:=⟨_,rfl⟩;rw[y]at U E ⊢;have O:=zbj (fun(u:World)(mu:Mod u w0 (fU g (some ⟨J,o,none⟩) n c i 0*F))=>iD g (some ⟨J,o,none⟩) n c i 1 0 oMg u w0 F mu);have aa:(i:Int)<=(n:Int):=oMg
 have af:(n:Int)<=(c:Int):=oMg
 have Y:¬c=i:=oMg
 have ag:¬(n:Int)-(i:Int)=0:=oMg
 have ae:(0:Int)<(n:Int)-(i:Int):=oMg
 clear M B hl r y;go_enter Tryz.func166,Tryz.ntmps166
 go_wp2_with fail
 go_quiet (fail)
 go_wp2_with (go_at_call 165;refine(O.out _ zbk).mono ?_;rintro e w1 ⟨rfl,m1⟩)
 go_ret
 exact⟨rfl,m1⟩
theorem Qw (s:ByteArray)(B:s.size<=256)(w w0:World)(S:ba)(m:Mod w w0 S):Calls Tryz.prog 167 #[.string s] w fun e y=>e=.returned (.bool true)/\Mod y w0 S:=by
 have z:(s.size:Int)<=256:=oMg
 go_enter Tryz.func167,Tryz.ntmps167
 go_wp2_with fail
 go_ret
 exact⟨rfl,m⟩
theorem PG (s:ByteArray)(z:mj s=true)(w w0:World)(S:ba)(m:Mod w w0 S):Calls Tryz.prog 62 #[.string s] w fun e B=>e=.returned (.bool true)/\Mod B w0 S:=by
 have y:=fi s w w0 S m;rw[z]at y;exact y
theorem Qh (g:Nat)(A:Option Addr)(n c i:Nat)(b:List UInt8)(s:ByteArray)(rest:List UInt8)(K:b.drop i=fk s++rest)(hs:s.size<=1000000)(hk:mj s=true)(hl:b.length=n)(hn:n<=900000000)(hc:n<=c)(w w0:World)(F:ba)(r:bk F A n (b7 b))(m:Mod w w0 (fU g A n c i 0*F)) :
 Calls Tryz.prog 163 #[ap g,.func (.func 62) #[] #[]] w fun e U=>e=.returned (.string s)/\Mod U w0 (fU g A n c (i+(fk s).length) 0*F):=by
 have B:i+(fk s).length<=n/\1<=(fk s).length:=by
  have y:=congrArg List.length K;rw[ZF,Ze,hl]at y;have h2:1<=(ca s.size).length:=we _;rw[pC]at y ⊢;omega
 have J:=Gi hs rest;rw[<-K]at J;have z:i<=n:=oMg
 have M:¬c=i:=oMg
 have O:=nO r z hc;rw[if_neg M]at O;obtain⟨tl,E⟩:∃t,(fk s).length=t:=⟨_,rfl⟩;rw[E]at B J ⊢
 have V:Hid (∀(u:World),Mod u w0 (fU g A n c i 0*F)->Calls Tryz.prog 225 #[.slice (A.map fun x=>x.add i) (n-i) (c-i)] u fun e U=>e=.returned (.tuple #[.string s,.int .i64 (tl:Int),.int .i64 0])/\Mod U w0 (fU g A n c i 0*F)):=fun u I=>by
  have y:=Bm (A.map fun x=>x.add i) (n-i) (c-i) (b.drop i) u w0 _ I (ct zbk O) oMg oMg;rw[J]at y;exact y
 have Y:=zbj (fun(u:World)(I:Mod u w0 (fU g A n c i 0*F))=>PG s hk u w0 _ I);have Z:=zbj (fun(u:World)(I:Mod u w0 (fU g A n c i 0*F))=>iD g A n c i tl 0 oMg u w0 F I);have aa:(i:Int)<=(n:Int):=oMg
 have ae:(n:Int)<=(c:Int):=oMg
 clear O J K E r;go_enter Tryz.func163,Tryz.ntmps163
 go_wp2_with fail
 go_region_with (go_at_call 225;refine(V.out _ zbk).mono ?_;rintro e w1 ⟨rfl,m1⟩)
 all_goals
  go_wp2_with first
   | (go_at_call 62;refine(Y.out _ m1).mono ?_;rintro e w2 ⟨rfl,m2⟩)
   | (go_at_call 165;refine(Z.out _ m2).mono ?_;rintro e w3 ⟨rfl,m3⟩)
  go_ret
  exact⟨rfl,m3⟩
theorem Qi (g:Nat)(A:Option Addr)(n c i:Nat)(b:List UInt8)(s:ByteArray)(rest:List UInt8)(K:b.drop i=fk s++rest)(hs:s.size<=1000000)(hk:s.size<=256)(hl:b.length=n)(hn:n<=900000000)(hc:n<=c)(w w0:World)(F:ba)(r:bk F A n (b7 b))(m:Mod w w0 (fU g A n c i 0*F)) :
 Calls Tryz.prog 163 #[ap g,.func (.func 167) #[] #[]] w fun e U=>e=.returned (.string s)/\Mod U w0 (fU g A n c (i+(fk s).length) 0*F):=by
 have B:i+(fk s).length<=n/\1<=(fk s).length:=by
  have y:=congrArg List.length K;rw[ZF,Ze,hl]at y;have h2:1<=(ca s.size).length:=we _;rw[pC]at y ⊢;omega
 have J:=Gi hs rest;rw[<-K]at J;have z:i<=n:=oMg
 have M:¬c=i:=oMg
 have O:=nO r z hc;rw[if_neg M]at O;obtain⟨tl,E⟩:∃t,(fk s).length=t:=⟨_,rfl⟩;rw[E]at B J ⊢
 have V:Hid (∀(u:World),Mod u w0 (fU g A n c i 0*F)->Calls Tryz.prog 225 #[.slice (A.map fun x=>x.add i) (n-i) (c-i)] u fun e U=>e=.returned (.tuple #[.string s,.int .i64 (tl:Int),.int .i64 0])/\Mod U w0 (fU g A n c i 0*F)):=fun u I=>by
  have y:=Bm (A.map fun x=>x.add i) (n-i) (c-i) (b.drop i) u w0 _ I (ct zbk O) oMg oMg;rw[J]at y;exact y
 have Y:=zbj (fun(u:World)(I:Mod u w0 (fU g A n c i 0*F))=>Qw s hk u w0 _ I);have Z:=zbj (fun(u:World)(I:Mod u w0 (fU g A n c i 0*F))=>iD g A n c i tl 0 oMg u w0 F I);have aa:(i:Int)<=(n:Int):=oMg
 have ae:(n:Int)<=(c:Int):=oMg
 clear O J K E r;go_enter Tryz.func163,Tryz.ntmps163
 go_wp2_with fail
 go_region_with (go_at_call 225;refine(V.out _ zbk).mono ?_;rintro e w1 ⟨rfl,m1⟩)
 all_goals
  go_wp2_with first
   | (go_at_call 167;refine(Y.out _ m1).mono ?_;rintro e w2 ⟨rfl,m2⟩)
   | (go_at_call 165;refine(Z.out _ m2).mono ?_;rintro e w3 ⟨rfl,m3⟩)
  go_ret
  exact⟨rfl,m3⟩
end Go.Proofs.YtdfppjcaelghhaaGreatDoor
set_option maxRecDepth 8000
set_option maxHeartbeats 16000000
namespace Go.Proofs.YtdfppjcaelghhaaGreatDoor
open Go.RowKit Go.Sl
attribute [local go_sem] ab bj bh bd
theorem gp {P:Program}{y:Func}{p u v:Tmp}{ty:TypeId}(h:y.results=#[.cell p ty,.tmp u,.tmp v])(tmps:Array Value)(w:World)(g:Nat)(t:TypeId)(cs:Array Value)(fr:Nat×Nat)(d:TypeDesc)
 (hp:tmps.getD p undef=.pointer (some ⟨g,0,none⟩)) (z:w.heap[g]?=some (.cells cs t fr))
 (E:P.underlying ty=some d) (hd:(match d with | .struct _ | .array _ _=>true | _=>false)=true) (B:(P.info? ty).map (·.size)=some cs.size) :
 (results y tmps).run P w=.ok (.tuple #[.agg cs,tmps.getD u undef,tmps.getD v undef]) w:=by
 have e:(results y tmps).run P w=((asAddr (tmps.getD p undef)).run P w).andThen fun a I=>((loadVar ty a).run P I).andThen fun x J=>.ok (.tuple #[x,tmps.getD u undef,tmps.getD v undef]) J:=by
  simp only[results,h];simp[Sem.run_bind,Result.andThen]
 rw[e,hp];simp[asAddr,run_loadVar_row w g t ty cs fr d z E hd B]
theorem Qm {s:ByteArray}(h:s.size=0):s=⟨#[]⟩:=Xl (Array.eq_empty_of_size_eq_zero h)
abbrev P9 (g:Nat)(a:ByteArray)(q:Nat)(y:Bool)(v:ByteArray):ba:=aE g (.cells #[.string a,.int .u64 (q:Int),.bool y,.string v] 71 (0,0))
theorem QJ (A:Option Addr)(n c:Nat)(x:ao)(hx:fS x)(rest:List UInt8)(hl:(jz x++rest).length=n)(hn:n<=900000000)(hc:n<=c)(w w0:World)(S:ba)(r:bk S A n (b7 (jz x++rest)))(m:Mod w w0 S) :
 Calls Tryz.prog 112 #[.slice A n c] w fun e w'=>e=.returned (.tuple #[.agg #[.string x.key,.int .u64 (x.seq:Int),.bool x.gone,.string x.value],.int .i64 ((jz x).length:Int),.int .i64 0])/\Mod w' w0 S:=by
 obtain⟨K,xs,B,E⟩:=x;obtain⟨b,hb⟩:∃b,jz ⟨K,xs,B,E⟩++rest=b:=⟨_,rfl⟩;rw[hb]at hl r;have ah:=hx.key;have au:=hx.size.2;have aj:=hx.value;have ai:=hx.seq;have ag:=hx.gone;simp only at ah au aj ai ag;have aa:b.drop 0=fk K++(ca xs++(sK B::((if B then []else fk E)++rest))):=by rw[<-hb,Z6];unfold jz;simp[]
 obtain⟨y,M⟩:∃i,(fk K).length=i:=⟨_,rfl⟩
 have ae:b.drop y=ca xs++(sK B::((if B then []else fk E)++rest)):=by
  have Z:=congrArg (List.drop y) aa;rw[Z6,<-M,za1]at Z;rw[<-M];exact Z
 obtain⟨J,V⟩:∃i,(ca xs).length=i:=⟨_,rfl⟩
 have U:b.drop (y+J)=sK B::((if B then []else fk E)++rest):=by
  rw[<-zbl,ae,<-V,za1]
 have ak:b.drop (y+J+1)=(if B then []else fk E)++rest:=by
  rw[<-zbl,U];rfl
 have aB:y+J+1<=n:=by
  have Z:=congrArg List.length U;rw[ZF,List.length_cons,hl]at Z;omega
 have O:(jz ⟨K,xs,B,E⟩).length=y+J+1+(if B then 0 else (fk E).length):=by
  unfold jz;cases B <;> simp[M,V] <;> omega
 obtain⟨z,ay⟩:∃g,w.heap.size=g:=⟨_,rfl⟩;obtain⟨I,az⟩:∃g,z+1=g:=⟨_,rfl⟩;have H1:=zbj (fun(u:World)(G:ba)(hG:Sub G S)(Y:Mod u w0 (fU I A n c 0 0*G))=>Qh I A n c 0 b K _ aa oMg ah hl hn hc u w0 G (ct hG r) Y);rw[M,ZM]at H1;have af:=B9 ai (sK B::((if B then []else fk E)++rest));rw[<-ae,V]at af;have av:¬c=y:=oMg
 have hr:=nO r (show y<=n by omega) hc;rw[if_neg av]at hr
 have H2:Hid (∀(u:World)(G:ba),Sub G S->Mod u w0 G->Calls Tryz.prog 164 #[.slice (A.map fun x=>x.add y) (n-y) (c-y)] u fun e w'=>e=.returned (.tuple #[.int .u64 (xs:Int),.int .i64 (J:Int),.int .i64 0])/\Mod w' w0 G):=fun u G hG Y=>by
  have Z:=Cd (A.map fun x=>x.add y) (n-y) (c-y) (b.drop y) u w0 G Y (ct hG hr) oMg oMg;rw[af]at Z;exact Z
 have H3:=zbj (fun(u:World)(G:ba)(Y:Mod u w0 (fU I A n c y 0*G))=>iD I A n c y J 0 oMg u w0 G Y);have H4:=zbj (fun(u:World)(G:ba)(hG:Sub G S)(Y:Mod u w0 (fU I A n c (y+J) 0*G))=>Qx I A n c (y+J) b B _ U hl hn hc u w0 G (ct hG r) Y);have aD:(y:Int)<=(n:Int):=oMg
 have aF:(n:Int)<=(c:Int):=oMg
 have HI:=zbj M;have HT:=zbj O
 have H5:Hid (B=false->∀(u:World)(G:ba),Sub G S->Mod u w0 (fU I A n c (y+J+1) 0*G)->Calls Tryz.prog 163 #[ap I,.func (.func 167) #[] #[]] u fun e w'=>e=.returned (.string E)/\Mod w' w0 (fU I A n c (y+J+1+(fk E).length) 0*G)):=fun h0 u G hG Y=>by
  subst h0;exact Qi I A n c (y+J+1) b E rest ak oMg aj hl hn hc u w0 G (ct hG r) Y
 have HV:Hid (B=true->E=⟨#[]⟩):=fun h0=>Qm (ag h0);obtain⟨fs,hu⟩:=KU;rw[O];clear aa ae U ak af hr hb M V hl r ah au aj ai ag O hx;have mA:Mod ((w.alloc (.cells #[.string ⟨#[]⟩,.int .u64 0,.bool false,.string ⟨#[]⟩] 71)).alloc (.cells #[.slice A n c,.int .i64 0,.int .i64 0] 231)) w0 (aE (w.heap.size+1) (.cells #[.slice A n c,.int .i64 0,.int .i64 0] 231 (0,0))*(aE w.heap.size (.cells #[.string ⟨#[]⟩,.int .u64 0,.bool false,.string ⟨#[]⟩] 71 (0,0))*S)):=zbk;rw[ay,az]at mA;go_enter Tryz.func112,Tryz.ntmps112
 go_wp2_with (go_at_call 163;refine(H1.out _ (P9 z ⟨#[]⟩ 0 false ⟨#[]⟩*S) zbk mA).mono ?_;rintro e w1 ⟨rfl,m1⟩;refine Hid.out ?_)
 clear mA H1;refine zbj ?_;go_wp2_with (go_at_call 164;refine Hid.out ?_)
 have m2:Mod (w1.setCell ⟨z,0,none⟩ (.string K)) w0 (fU I A n c y 0*(P9 z K 0 false ⟨#[]⟩*S)):=qB (by simp only[Zb,Zc,b9];ac_rfl);generalize w1.setCell ⟨z,0,none⟩ (.string K)=w2 at *;clear m1;refine zbj ?_;refine(H2.out w2 _ zbk m2).mono ?_;rintro e w3 ⟨rfl,m3⟩;clear m2 H2;go_wp2_with (go_at_call 165;refine Hid.out ?_)
 have m4:Mod (w3.setCell ⟨z,1,none⟩ (.int .u64 (xs:Int))) w0 (fU I A n c y 0*(P9 z K xs false ⟨#[]⟩*S)):=qB (by simp only[Zb,Zc,Zd,b9];ac_rfl);generalize w3.setCell ⟨z,1,none⟩ (.int .u64 (xs:Int))=w4 at *;clear m3;refine zbj ?_;refine(H3.out w4 _ m4).mono ?_;rintro e w5 ⟨rfl,m5⟩;clear m4 H3;go_wp2_with (go_at_call 166;refine(H4.out _ _ zbk m5).mono ?_;rintro e w6 ⟨rfl,m6⟩;refine Hid.out ?_)
 clear m5 H4;refine zbj ?_
 cases B with
 | true =>
   obtain rfl:=HV.out rfl;have ax:(((sK true).toNat:Int)==1)=true:=rfl;go_upto_region 14 with fail
   have m7:Mod (w6.setCell ⟨z,2,none⟩ (.bool true)) w0 (fU I A n c (y+J+1) 0*(P9 z K xs true ⟨#[]⟩*S)):=qB (by simp only[Zb,Zc,Zd,b9];ac_rfl);generalize w6.setCell ⟨z,2,none⟩ (.bool true)=w7 at *;clear m6;go_region
   all_goals (go_wp2_with fail)
   all_goals
    have mF:Mod (((((w7.setCell ⟨z,0,none⟩ (.string K)).setCell ⟨z,1,none⟩ (.int .u64 (xs:Int))).setCell ⟨z,2,none⟩ (.bool true)).setCell ⟨z,3,none⟩ (.string ⟨#[]⟩)).drew) w0 _:=zbk;simp only[Zb,Zc,Zd,b9]at mF;refine bodyPost_ret (gp rfl _ _ z 71 _ (0,0) _ rfl (Mod.heap (m:=mF)) hu rfl (by rw[rO];rfl)) rfl ?_;exact⟨by simp,Mod.keep mF⟩
 | false =>
   have ax:(((sK false).toNat:Int)==1)=false:=rfl;go_wp2_with (go_at_call 163;refine Hid.out ?_)
   have m7:Mod (w6.setCell ⟨z,2,none⟩ (.bool false)) w0 (fU I A n c (y+J+1) 0*(P9 z K xs false ⟨#[]⟩*S)):=qB (by simp only[Zb,Zc,Zd,b9];ac_rfl);generalize w6.setCell ⟨z,2,none⟩ (.bool false)=w7 at *;clear m6;refine zbj ?_;refine(H5.out (by first | rfl | trivial) _ _ zbk m7).mono ?_;rintro e w8 ⟨rfl,m8⟩;clear m7;go_upto_region 14 with fail
   have m9:Mod (w8.setCell ⟨z,3,none⟩ (.string E)) w0 (fU I A n c (y+J+1+(fk E).length) 0*(P9 z K xs false E*S)):=qB (by simp only[Zb,Zc,Zd,b9];ac_rfl);generalize w8.setCell ⟨z,3,none⟩ (.string E)=w9 at *;clear m8;go_region
   all_goals (go_wp2_with fail)
   all_goals
    have mF:Mod (((((w9.setCell ⟨z,0,none⟩ (.string K)).setCell ⟨z,1,none⟩ (.int .u64 (xs:Int))).setCell ⟨z,2,none⟩ (.bool false)).setCell ⟨z,3,none⟩ (.string E)).drew) w0 _:=zbk;simp only[Zb,Zc,Zd,b9]at mF;refine bodyPost_ret (gp rfl _ _ z 71 _ (0,0) _ rfl (Mod.heap (m:=mF)) hu rfl (by rw[rO];rfl)) rfl ?_;exact⟨by simp,Mod.keep mF⟩
end Go.Proofs.YtdfppjcaelghhaaGreatDoor
set_option maxRecDepth 8000
set_option maxHeartbeats 32000000
namespace Go.Proofs.YtdfppjcaelghhaaGreatDoor
open Go.RowKit Go.Sl
attribute [local go_sem] ab bj bh bd
structure fM (ws:List (List ao))(sq:Nat):Prop where
 each:∀i (hi:i<ws.length),(∀x∈ws[i],fS x/\x.seq=sq+i+1)/\ws[i].Pairwise fun a b=>a.key≠b.key
 tot:ws.flatten.length<=1024
 small:ws.length<=1024
 seq:sq<=1000000
theorem fM.len {ws:List (List ao)}{B:Nat}(h:fM ws B){i:Nat}(z:i<ws.length):ws[i].length<=1024:=by
 have E:=h.tot;have y:ws[i].Sublist ws.flatten:=x9 (Zq z);have:=y.length_le;omega
theorem fM.new {ws:List (List ao)}{V:Nat}(h:fM ws V){i k:Nat}(I:i<ws.length)(M:k<ws[i].length):∀y∈jd [] ((ws.take i).flatten++ws[i].take k),fS y/\¬eW y ws[i][k]:=fun y z=>by
 have Z:=(h.each i I).1 _ (Zq M);have z:=(kD _ _).mem_iff.1 z;rw[List.nil_append]at z;rcases ZA.1 z with z | z
 ·obtain⟨w,U,E⟩:=Y1.1 z
  obtain⟨j,J,rfl⟩:=ZI.1 U;have B:j<i:=by rw[Zt]at J;omega
  rw[YU]at E;have O:=(h.each j oMg).1 y E;refine⟨O.1,fun K=>?_⟩;have Y:=K.2.1;omega
 ·obtain⟨j,J,rfl⟩:=ZI.1 z
  have B:j<k:=by rw[Zt]at J;omega
  rw[YU];refine⟨((h.each i I).1 _ (Zq oMg)).1,fun K=>?_⟩;exact Z0.1 (h.each i I).2 j k oMg M B K.1
theorem fM.many {ws:List (List ao)}{B:Nat}(h:fM ws B){i k:Nat}(z:i<ws.length):(jd [] ((ws.take i).flatten++ws[i].take k)).length<=1024:=by
 rw[(kD _ _).length_eq,List.nil_append]
 have y:((ws.take i).flatten++ws[i].take k).Sublist ws.flatten:=by
  conv=>rhs;rw[<-YT i ws]
  rw[zZ,Ya z,List.flatten_cons];exact(Xf _).append ((za4 k _).trans (yz _ _))
 have:=y.length_le;have:=h.tot;omega
theorem PA (e p mp J t hm:Nat)(x2 x5:Value)(A:Option Addr)(c:Nat)(v:eN)(ws:List (List ao))(g:Nat)(f:dr)(hj:v.k.al<4294967296)(hg:br v.D.now (ez v.k.al)=some g)(hf:cw v.D.files g=some f)(aY:(j3 f.bytes).1=ws.map fy)(hb:f.bytes.length<=1048576)
 (hw:fM ws v.seq) (hT:v.T=[]) (w w0:World) (F:ba) (m:Mod w w0 (N0 e p mp J x2 t x5 hm A c v F)) (tab:fX F) (bI:qf F) :
 Calls Tryz.prog 59 #[ap e] w fun en w'=>en=.returned (.tuple #[])/\Mod w' w0 (N0 e p mp J x2 t x5 hm A c {v with T:=jd [] ws.flatten,seq:=v.seq+ws.length} F):=by
 have bQ:cJ v.D:=p7 m (zbk:eM _ (bv p) v.D _);have aR:=zbj (fun(u:World)(X:ba)(O:Mod u w0 (gA mp p (ap J) v.num v.xs.length (.slice A v.k.files.length v.k.files.length) v.k.nums*X))=>n7 mp p (ap J) v.num v.xs.length (.slice A v.k.files.length v.k.files.length) v.k.nums u w0 X O);rw[show v.k.nums.1=v.k.al from rfl]at aR;have aO:=zbj (fun(u:World)(G:ba)(hG:Sub G F)(O:Mod u w0 G)=>nF v.k.al hj u w0 G O (tab.lift hG));have aL:=vF hj;have aM:=uy hj;obtain⟨aH,bP⟩:∃x,ez v.k.al=x:=⟨_,rfl⟩;rw[bP]at aO hg aL aM;obtain⟨names,I⟩:∃names,names=(e8 v.D).map fun l=>(⟨l.toArray⟩:ByteArray):=⟨_,rfl⟩;have bO:aH∈names:=by rw[I];exact Pu hg
 obtain⟨nL,aX⟩:∃n,(e8 v.D).length=n:=⟨_,rfl⟩;have dK:nL<=64:=by rw[<-aX,tT];exact bQ.many
 have HL:=zbj (fun(u:World)(G:ba)(O:Mod u w0 (bv p v.D*G))=>tz p v.D u w0 _ G O ⟨rfl⟩);rw[aX,gH,<-I]at HL
 have bq:Hid (∀(u:World)(S:ba)(B:Option Addr)(c:Nat),Mod u w0 S->bk S B nL (names.map Value.string)->Calls Tryz.prog 53 #[.slice B nL c,.string aH] u fun e w'=>e=.returned (.bool true)/\Mod w' w0 S):=fun u S B c O rd=>by
  have h1:=zT B nL c names aH u w0 S O rd oMg;rw[Bf bO]at h1;exact h1
 obtain⟨rd,Y⟩:∃rd,j3 f.bytes=rd:=⟨_,rfl⟩;have aP:=zbj (fun(u:World)(G:ba)(O:Mod u w0 (bv p v.D*G))=>PF p v.D aH u w0 G O aM g f aL hg hf hb);obtain⟨N,hN⟩:∃N,ws.length=N:=⟨_,rfl⟩;have bU:rd.1.length=N:=by rw[<-Y,aY,ZW,hN]
 have bT:rd.1=ws.map fy:=by rw[<-Y,aY]
 rw[Y]at aP;have HW:=zbj hw;have HN:=zbj hN;have bD:=zbj bT;have bu:=zbj bI;have bW:v.seq<=1000000:=hw.seq;have dO:N<=1024:=by rw[<-hN];exact hw.small
 obtain⟨sq,aZ⟩:∃s,v.seq=s:=⟨_,rfl⟩;rw[aZ]at HW bW;obtain⟨D,hD⟩:∃D,v.D=D:=⟨_,rfl⟩;have m0:Mod w w0 (N0 e p mp J x2 t x5 hm A c v F):=m;unfold N0 at m;rw[hT,aZ]at m;rw[hN,aZ]
 have bz:Hid (∀(u:World)(T:List ao)(G:ba),T=jd [] ws.flatten->Mod u w0 (fL mp p J v.num v.xs.length A c v.k v.D (al [] (cf v.xs)).length (jT e p (ap mp) x2 (ap t) (.int .u64 ((sq+N:Nat):Int)) x5 (.map (some hm))*(im t T*(U64.gv hm (g6 v.H)*(G*F)))))->Mod u w0 (N0 e p mp J x2 t x5 hm A c {v with T:=jd [] ws.flatten,seq:=sq+N} F)):=fun u T G cK O=>by
  subst cK;exact Mod.keep O
 clear hw bT aY Y hN hf hg hb hT bP bO I aX bQ bI m0 hD;go_enter Tryz.func59,Tryz.ntmps59
 go_wp2_with (go_at_call 58;refine(aR.out _ _ (Mod.pull (m:=m) (gA mp p (ap J) v.num v.xs.length (.slice A v.k.files.length v.k.files.length) v.k.nums))).mono ?_;rintro ex w1 ⟨rfl,m1⟩;refine Hid.out ?_)
 clear m aR;refine zbj ?_;go_wp2_with (go_at_call 72;refine(aO.out _ _ zbk m1).mono ?_;rintro ex w2 ⟨rfl,m2⟩;refine Hid.out ?_)
 clear m1 aO;refine zbj ?_;go_wp2_with (go_at_call 50;refine(HL.out _ _ (Mod.pull (m:=m2) (bv p v.D))).mono ?_;rintro ex w3 ⟨BL,cL,rfl,m3⟩;refine Hid.out ?_)
 clear m2 HL;refine zbj ?_;go_wp2_with (go_at_call 53;refine(bq.out _ _ _ _ m3 zbk).mono ?_;rintro ex w4 ⟨rfl,m4⟩;refine Hid.out ?_)
 clear m3 bq;refine zbj ?_;go_wp2_with (go_at_call 73;refine(aP.out _ _ (Mod.pull (m:=m4) (bv p v.D))).mono ?_;rintro ex w5 bV;obtain⟨jj,AR,RR,rfl,aF,m5⟩:=bV;refine Hid.out ?_)
 rw[bU]at aF;rw[bD.out]at aF;clear m4 aP bD bU;obtain⟨G,hG⟩:∃G,G=fL mp p J v.num v.xs.length A c v.k v.D (al [] (cf v.xs)).length (U64.gv hm (g6 v.H)*(RR*F)):=⟨_,rfl⟩;have dN:Sub G F:=by rw[hG];unfold fL;infer_instance
 have rG:jt G AR N (ws.map fy):=aF.lift (by rw[hG];unfold fL;infer_instance);have m6:Mod w5 w0 (jT e p (ap mp) x2 (ap t) (.int .u64 (sq:Int)) x5 (.map (some hm))*(im t []*G)):=by rw[hG];exact Mod.keep m5
 have cz:=zbj hG;have RG:=zbj rG;clear m5 aF rG hG;refine zbj ?_;go_wp2_with (go_at_call 34;refine(g4 _ w0 _ m6).mono ?_;rintro ex w6 ⟨rfl,m7⟩;refine Hid.out ?_)
 clear m6;refine zbj ?_;go_wp2_with fail
 go_loopg [7,8,9,10,40] N (fun gk v7 v8 v9 dF dG wr=>∃i:Nat,i<=N/\gk=N-i/\dG=.int .i64 (i:Int)/\Mod wr w0 (jT e p (ap mp) x2 (ap t) (.int .u64 ((sq+i:Nat):Int)) x5 (.map (some hm))*(im t (jd [] (ws.take i).flatten)*G)))
 case atStart=>exact⟨0,Zv _,rfl,rfl,m7⟩
 case round =>
  clear m7;obtain⟨i,dQ,dP,rfl,m8⟩:=hrel;by_cases aW:i<N
  ·have dh:(i:Int)<(N:Int):=oMg
   have Z:i<ws.length:=by rw[HN.out];exact aW
   obtain⟨b1,o1,cB,di,Br,cr,bY,rr,aT⟩:=Bz (Mod.sub G (m:=m8)) RG.out aW;subst cB;have hx:wr.cell? ⟨b1,o1+i,none⟩=some (.slice Br ((ws.map fy)[i]).length cr):=bY ⟨wr,Mod.sub G (m:=m8)⟩;have bN:(ws.map fy)[i]=fy ws[i]:=by simp
   rw[bN]at hx rr aT;obtain⟨nr,af⟩:∃n,(fy ws[i]).length=n:=⟨_,rfl⟩;rw[af]at hx rr aT;obtain⟨nw,aB⟩:∃n,ws[i].length=n:=⟨_,rfl⟩;have dM:nw<=1024:=by rw[<-aB];exact HW.out.len Z
   have dL:nr<=900000000:=by
    rw[<-af];have:=EI (fun x hx=>((HW.out.each i Z).1 x hx).1);omega
   have HI:=zbj (fun k (hk:k<ws[i].length)=>(⟨(HW.out.each i Z).1 _ (Zq hk),HW.out.new Z hk,HW.out.many (k:=k) Z⟩:_/\_/\_))
   have av:Hid ((ws.take (i+1)).flatten=(ws.take i).flatten++ws[i]):=by
    show _=_;rw[Zx Z,zZ,List.flatten_cons,zbp,ZH]
   obtain⟨E,cO⟩:∃E,ws[i]=E:=⟨_,rfl⟩;simp only[cO]at HI av af aB rr;have bB:=zbj af;have ax:=zbj aB;obtain⟨T0,bJ⟩:∃T0,(ws.take i).flatten=T0:=⟨_,rfl⟩;simp only[bJ]at HI av m8;have bH:=zbj rr;clear bY bN af aB bJ rr di;go_wp2_with fail
   go_loopg [7,8,9,10] nw (fun gk v7 v8 v9 dF wr=>∃(k:Nat)(Ak:Option Addr)(V ck:Nat),k<=nw/\gk=nw-k/\v7=.slice Ak V ck/\V<=ck/\V<=nr/\Hid ((fy (E.drop k)).length=V)/\Hid (bk G Ak V (b7 (fy (E.drop k))))/\Mod wr w0 (jT e p (ap mp) x2 (ap t) (.int .u64 ((sq+i:Nat):Int)) x5 (.map (some hm))*(im t (jd [] (T0++E.take k))*G)))
   case atStart=>exact⟨0,Br,nr,cr,Zv _,rfl,rfl,aT,Zm _,bB,bH,by rw[List.take_zero,ZH];exact m8⟩
   case round =>
    clear m8 hx;obtain⟨k,Ak,V,ck,hk,dJ,rfl,bL,dU,aQ,bE,m9⟩:=hrel;by_cases aa:k<nw
    ·have ay:k<E.length:=by rw[ax.out];exact aa
     have aU:E.drop k=E[k]::E.drop (k+1):=Ya ay;have bS:fy (E.drop k)=jz E[k]++fy (E.drop (k+1)):=by rw[aU];rfl
     have hI:=HI.out k ay;have ai:=hI.1;have az:=aQ.out;have aD:=bE.out;rw[bS]at az aD
     have bX:ip (jd [] (T0++E.take k))<=1000000000000:=by
      have h2:=EZ fun y hy=>(hI.2.1 y hy).1;have:=hI.2.2;omega
     have bF:Hid (E.take (k+1)=E.take k++[E[k]]):=Zx ay;have bR:1<=(jz E[k]).length:=by unfold jz;have:=pC E[k].key;have:1<=(ca E[k].key.size).length:=we _;rw[Ze];omega
     have aS:=zbj (fun(u:World)(S:ba)(hS:Sub S G)(O:Mod u w0 S)=>QJ Ak V ck E[k] ai.1 _ az oMg bL u w0 S (ct hS aD) O);have bG:=zbj (fun(u:World)(S:ba)(hS:Sub S F)(O:Mod u w0 S)=>KM E[k] ai.1 u w0 S O (bu.out.lift hS));have bC:=zbj (fun(tl:Nat)(h1:1<=tl)(h8:tl<=8)(u:World)(S:ba)(O:Mod u w0 (im t (jd [] (T0++E.take k))*S))=>Ie t _ E[k] tl ai.1 h1 h8 (by have:=hI.2.2;omega) (fun y hy=>(hI.2.1 y hy).2) bX u w0 S O);have dn:(E.drop (k+1)).length+1=(E.drop k).length:=by rw[aU];rfl
     have aN:(jz E[k]).length+(fy (E.drop (k+1))).length=V:=by rw[<-az,Ze]
     have U:(jz E[k]++fy (E.drop (k+1))).drop (jz E[k]).length=fy (E.drop (k+1)):=za1;obtain⟨tk,aG⟩:∃n,(jz E[k]).length=n:=⟨_,rfl⟩;rw[aG]at bR aN U aS;have dw:tk<=V:=oMg
     have hcut:=nO aD dw bL;rw[U]at hcut;have au:=zbj hcut;have aK:=zbj aN;have dE:=ai.2;have cZ:(sq:Int)+(i:Int)<(E[k].seq:Int):=oMg
     clear hcut U aD az hI ai bS aU dn bX;generalize E[k]=x at *;clear ay;obtain⟨xk,xs,xg,xv⟩:=x;simp only at cZ;clear dE;go_wp2_with (go_at_call 112;refine(aS.out _ _ zbk m9).mono ?_;rintro ex bg ⟨rfl,bZ⟩;refine Hid.out ?_)
     clear m9 aS;refine zbj ?_;go_wp2_with (go_at_call 34;refine Hid.out ?_)
     obtain⟨gx,aV⟩:∃x,bg.heap.size=x:=⟨_,rfl⟩;have cu:Mod (bg.alloc (.cells #[.string xk,.int .u64 (xs:Int),.bool xg,.string xv] 71)) w0 (aE gx (.cells #[.string xk,.int .u64 (xs:Int),.bool xg,.string xv] 71 (0,0))*_):=Mod.alloc (m:=bZ) (hn:=⟨aV⟩) _;rw[aV];generalize bg.alloc (.cells #[.string xk,.int .u64 (xs:Int),.bool xg,.string xv] 71)=dW at *;clear aV bZ;refine zbj ?_;refine(g4 _ w0 _ cu).mono ?_;rintro ex aJ ⟨rfl,aI⟩;clear cu;have dR:(tk:Int)<=(V:Int):=oMg
     have dS:(V:Int)<=(ck:Int):=oMg
     by_cases bK:ck=tk
     ·have hz:V=ck:=oMg
      subst bK;subst hz;rw[if_pos rfl,zae]at au;have ae:Hid ((fy (E.drop (k+1))).length=0):=by have:=aK.out;exact zbj oMg
      go_upto_region 12 with fail
      go_quiet (fail)
      go_upto_region 13 with fail
      have aj:Mod (aJ.drewN nq) w0 _:=Mod.drewN nq (m:=aI);clear aI;generalize aJ.drewN nq=bn at *;refine wp_region_held_drew (S:=fun u=>u.cell? ⟨e,3,none⟩=some (ap t)/\u.cell? ⟨gx,0,none⟩=some (.string xk)/\u.cell? ⟨gx,1,none⟩=some (.int .u64 (xs:Int))/\u.cell? ⟨gx,2,none⟩=some (.bool xg)/\u.cell? ⟨gx,3,none⟩=some (.string xv)) kRf (⟨Za,Za,Za,Za,Za⟩) (fun z=>?_);simp only[Zl,List.length_cons,List.length_nil,Nat.reduceAdd];obtain⟨W,hW⟩:∃W,W=bn.drew:=⟨_,rfl⟩;have mW:Mod W w0 _:=hW▸Mod.drew (m:=aj);rw[<-hW]at z ⊢;clear hW aj;refine Tk.go [(0,some 66),(1,some 67),(2,some 68),(3,some 69),(4,some 70),(5,some 71)] ?_
      repeat (
       refine Tk.gS (v:=?_) rfl (Or.inl ⟨by rfl,?_⟩) z ?_ (fun _ _ _ h=>h);rotate_left 1
       ·(intro u hu;(try dsimp only at hu);obtain⟨dz,dA,dB,dC,dD⟩:=hu;go_simp;try with_reducible rfl)
       simp only[Act.put,Zb,Zc,Zd])
      refine Tk.stop (g7 6 (some 72) rfl rfl rfl fun K M=>?_);go_simp
      refine(bG.out _ _ zbk mW).mono ?_;rintro ex wt ⟨⟨tl,rfl,ag,ah⟩,mt⟩;clear mW;refine M.out (.int .i64 (tl:Int)) _ (⟨Za,Za,Za,Za,Za⟩) (fun z=>?_);clear M K;simp only[Act.put,Zb,Zc,Zd];refine(g7 7 (some 73) rfl rfl rfl fun K M=>?_);go_simp
      refine(bC.out tl ag ah _ _ (Mod.pull (m:=mt) (im t (jd [] (T0++E.take k))))).mono ?_;rintro ex dH ⟨rfl,ak⟩;clear mt;refine M.out (.int .i64 0) _ (⟨Za,Za,Za,Za,Za⟩) (fun z=>?_);clear M K;simp only[Act.put,Zb,Zc,Zd];refine(g7 8 (some 74) rfl rfl rfl fun K M=>?_);go_simp
      refine(g4 _ w0 _ ak).mono ?_;rintro ex dI ⟨rfl,bf⟩;clear ak;refine M.out (.tuple #[]) _ (⟨Za,Za,Za,Za,Za⟩) (fun z=>?_);clear M K;simp only[Act.put,Zb,Zc,Zd];refine mH ?_;clear z;go_wp2_with fail
      go_roundg (nw-(k+1))
      case measure=>omega
      case rel=>exact⟨k+1,Ak,0,0,aa,rfl,rfl,Zm _,Zv _,ae,au,by rw[bF.out,<-Zr,Ee];exact Mod.keep bf⟩
     ·rw[if_neg bK]at au
      have ae:Hid ((fy (E.drop (k+1))).length=V-tk):=by have:=aK.out;exact zbj oMg
      go_upto_region 12 with fail
      go_quiet (fail)
      go_upto_region 13 with fail
      have aj:Mod (aJ.drewN nq) w0 _:=Mod.drewN nq (m:=aI);clear aI;generalize aJ.drewN nq=bn at *;refine wp_region_held_drew (S:=fun u=>u.cell? ⟨e,3,none⟩=some (ap t)/\u.cell? ⟨gx,0,none⟩=some (.string xk)/\u.cell? ⟨gx,1,none⟩=some (.int .u64 (xs:Int))/\u.cell? ⟨gx,2,none⟩=some (.bool xg)/\u.cell? ⟨gx,3,none⟩=some (.string xv)) kRf (⟨Za,Za,Za,Za,Za⟩) (fun z=>?_);simp only[Zl,List.length_cons,List.length_nil,Nat.reduceAdd];obtain⟨W,hW⟩:∃W,W=bn.drew:=⟨_,rfl⟩;have mW:Mod W w0 _:=hW▸Mod.drew (m:=aj);rw[<-hW]at z ⊢;clear hW aj;refine Tk.go [(0,some 66),(1,some 67),(2,some 68),(3,some 69),(4,some 70),(5,some 71)] ?_
      repeat (
       refine Tk.gS (v:=?_) rfl (Or.inl ⟨by rfl,?_⟩) z ?_ (fun _ _ _ h=>h);rotate_left 1
       ·(intro u hu;(try dsimp only at hu);obtain⟨dz,dA,dB,dC,dD⟩:=hu;go_simp;try with_reducible rfl)
       simp only[Act.put,Zb,Zc,Zd])
      refine Tk.stop (g7 6 (some 72) rfl rfl rfl fun K M=>?_);go_simp
      refine(bG.out _ _ zbk mW).mono ?_;rintro ex wt ⟨⟨tl,rfl,ag,ah⟩,mt⟩;clear mW;refine M.out (.int .i64 (tl:Int)) _ (⟨Za,Za,Za,Za,Za⟩) (fun z=>?_);clear M K;simp only[Act.put,Zb,Zc,Zd];refine(g7 7 (some 73) rfl rfl rfl fun K M=>?_);go_simp
      refine(bC.out tl ag ah _ _ (Mod.pull (m:=mt) (im t (jd [] (T0++E.take k))))).mono ?_;rintro ex dH ⟨rfl,ak⟩;clear mt;refine M.out (.int .i64 0) _ (⟨Za,Za,Za,Za,Za⟩) (fun z=>?_);clear M K;simp only[Act.put,Zb,Zc,Zd];refine(g7 8 (some 74) rfl rfl rfl fun K M=>?_);go_simp
      refine(g4 _ w0 _ ak).mono ?_;rintro ex dI ⟨rfl,bf⟩;clear ak;refine M.out (.tuple #[]) _ (⟨Za,Za,Za,Za,Za⟩) (fun z=>?_);clear M K;simp only[Act.put,Zb,Zc,Zd];refine mH ?_;clear z;go_wp2_with fail
      go_roundg (nw-(k+1))
      case measure=>omega
      case rel=>exact⟨k+1,_,V-tk,ck-tk,aa,rfl,rfl,oMg,oMg,ae,au,by rw[bF.out,<-Zr,Ee];exact Mod.keep bf⟩
    ·have dm:k=nw:=oMg
     subst dm;have bM:E.drop k=[]:=Yj (by rw[ax.out];exact Zm _);have dx:V=0:=by have h1:=aQ.out;rw[bM]at h1;exact h1.symm
     subst dx;have aG:E.take k=E:=Zn (by rw[ax.out];exact Zm _);rw[aG,<-av.out]at m9;have dV:IntKind.u64.wrap ((sq:Int)+(i:Int)+1)=(sq:Int)+(i:Int)+1:=by rw[IntKind.wrap_u64];omega
     clear aQ bE bM aG HI av ax bB bH;go_wp2_with fail
     go_roundg (N-(i+1))
     case measure=>omega
     case rel=>exact⟨i+1,aW,rfl,by go_num,qB (by simp only[Zb,Zc,Zd,b9];rfl)⟩
  ·have df:i=N:=oMg
   subst df;have dh:¬(i:Int)<(i:Int):=oMg
   rw[cz.out]at m8;go_wp2_with fail
   go_end0
   exact⟨rfl,bz.out _ (jd [] (ws.take i).flatten) RR (by rw[Zn (by rw[HN.out];exact Zm _)]) (Mod.keep m8)⟩
end Go.Proofs.YtdfppjcaelghhaaGreatDoor
namespace Go.Proofs.YtdfppjcaelghhaaGreatDoor
open Go Go.Sl
theorem Ag (b:List UInt8)(n keep:Nat)(hn:n=b.length):kept keep ⟨b,n⟩=⟨b,n⟩:=by
 subst hn;unfold kept;simp
theorem j1 {D:aq}{b:Bool}{s:ByteArray}{g:Nat}(y:br D.now s=some g)(z:br D.sure s=some g):(s,g)∈gz D b:=by
 cases b
 ·exact fj z
 ·exact fj y
theorem jG.QT {D c:aq}{num:Nat}{xs:List db}{k:dk}(h:jG D num xs k){keep:Nat}{b:Bool}(l:iO D keep b c):jG c num xs k:=by
 obtain⟨K,J,V,Y,Z,a4,a5,a6⟩:=h.disk.ex;obtain⟨g1,E,b2⟩:=l.file (nM,K) (j1 V a5);obtain⟨g2,I,b4⟩:=l.file (cD num,J) (j1 Y a6)
 have hl:∀s,s∈c.now.map (·.1)->∃g,(s,g)∈gz D b:=fun s hs=>by
  have:=l.names.mem_iff.1 hs;obtain⟨q,z,rfl⟩:=Zz.1 this;exact⟨q.2,z⟩
 have y:(tY c.now).length<=50:=by
  have e:∀L:qP,(tY L).length=((L.map (·.1)).filter fun s => !gc s).length:=fun L=>by
   unfold tY;rw[zav,ZW];rfl
  rw[e,(l.names.filter _).length_eq,<-e];cases b
  ·exact h.OH
  ·exact h.few
 have U:∀q∈c.now,gc q.1=true->q.1=nM\/q.1=cD num:=fun q z M=>by
  obtain⟨g,O⟩:=hl q.1 (ZC z);cases b
  ·exact h.disk.Of (q.1,g) O M
  ·exact h.disk.own (q.1,g) O M
 refine⟨⟨⟨g1,g2,E,I,?_,?_,by rw[l.both];exact E,by rw[l.both];exact I⟩,U,by rw[l.both];exact U⟩,h.fold,h.know,h.each,h.head,h.tail,y,by rw[l.both];exact y⟩
 ·rw[b2]
  show some (fG D keep K)=_;rw[gL Z,Ag _ _ _ (by show (cD num).data.size=_;rw[Array.length_toList])]
 ·rw[b4]
  show some (fG D keep J)=_;rw[gL a4,Ag _ _ _ rfl]
theorem Px (l:List (List UInt8))(k:Nat):∃i,i<=l.length/\(j3 ((al [] l).take k)).1=l.take i:=by
 by_cases I:(al [] l).length<=k
 ·refine⟨l.length,Zm _,?_⟩
  rw[Zn I,Xc,yj]
 ·have h:∀n,n<=l.length->(al [] (l.take n)).length<=k\/∃i,i<n/\(al [] (l.take i)).length<=k/\k<(al [] (l.take (i+1))).length:=by
   intro n
   induction n with
   | zero=>exact fun _=>.inl (by simp[al])
   | succ n J =>
     intro hn;rcases J oMg with y | ⟨i,y,z,E⟩
     ·by_cases z:(al [] (l.take (n+1))).length<=k
      ·exact .inl z
      ·exact .inr ⟨n,zbq n,y,oMg⟩
     ·exact .inr ⟨i,oMg,z,E⟩
  rcases h l.length (Zm _)with y | ⟨i,y,z,E⟩
  ·rw[Xc]at y;exact absurd y I
  ·exact⟨i,oMg,by rw[Py l k i y z E]⟩
theorem cv.Pv {v:eN}{B N n0:Nat}(h:cv v B N n0)(K:N<=v.T.length):v.k.files=[]:=by
 have I:=h.toEnCore.AK
 cases y:v.k.files with
 | nil=>rfl
 | cons f l =>
   exfalso;have z:=h.disk.each f (by rw[y];exact Zj ..);have E:=z.here.ok.ne
   have J:1<=(lO v.k v.ent).length:=by
    unfold lO;rw[y,Zp,Ze];have:=ZO.2 E;omega
   omega
section
variable {v:eN}{B N n0 keep:Nat}{b:Bool}{c:aq}
theorem cv.failed (h:cv v B N n0)(_:cJ v.D)(O:v.k.files=[])(l:iO v.D keep b c) :
 qb c v.num v.xs v.k v.ent (·∈jL v.k.al)/\∃i g f,i<=v.ws.length/\br c.now (ez v.k.al)=some g/\cw c.files g=some f/\(j3 f.bytes).1=(v.ws.take i).map fy/\f.bytes.length<=1048576:=by
 obtain⟨K,⟨g,U,E⟩,_⟩:=h.Bq;obtain⟨M,h1,h2⟩:=l.file (ez v.k.al,g) (j1 U (by rw[h.tf];exact U));have h3:cw c.files M=some (kept keep ⟨al [] (v.ws.map fy),K⟩):=by rw[h2,<-gL E]
 have Y:(al [] (v.ws.map fy)).length<=1048576:=by
  have h4:=h.LH;have h5:=h.small;omega
 obtain⟨i,V,hr⟩:=Px (v.ws.map fy) (K+min keep ((al [] (v.ws.map fy)).length-K));rw[ZW]at V;refine⟨⟨h.disk.man.QT l,fun f y=>(by rw[O]at y;cases y),fun s ho hs=>?_,fun f y=>(by rw[O]at y;cases y),h.disk.jn⟩,i,M,_,V,h1,h3,?_,?_⟩
 ·have J:s∈c.now.map (·.1):=by
   cases z:br c.now s with
   | none=>exact absurd z hs
   | some x=>exact Zz.2 ⟨(s,x),fj z,rfl⟩
  obtain⟨q,Z,I⟩:=Zz.1 (l.names.mem_iff.1 J);refine h.disk.only s ho fun z=>?_;subst I;cases b
  ·exact ot (show br v.D.sure q.1=none by rw[h.tf];exact z) q Z rfl
  ·exact ot z q Z rfl
 ·show (j3 ((al [] (v.ws.map fy)).take _)).1=_
  rw[hr,zbo]
 ·show ((al [] (v.ws.map fy)).take _).length≤_
  rw[Zt];omega
end
end Go.Proofs.YtdfppjcaelghhaaGreatDoor
