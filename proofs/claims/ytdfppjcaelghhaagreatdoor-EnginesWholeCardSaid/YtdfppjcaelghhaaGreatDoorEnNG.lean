/- Plain lemmas and contracts; the conditions are in each. -/
import Derived.Test.YtdfppjcaelghhaaGreatDoorEnKG
set_option maxHeartbeats 2000000
namespace Go.Proofs.YtdfppjcaelghhaaGreatDoor
open Go Go.Sl
theorem qb.put {D:aq}{num:Nat}{xs:List db}{k:dk}{ent:Nat->List ao}{P:ByteArray->Prop}(h:qb D num xs k ent P)(J:cJ D){nm:ByteArray}{g:Nat}(hg:br D.now nm=some g)(I:gc nm=false)(hf:∀f∈k.files,cY f.num≠nm)(U:dr):qb {D with files:=iS D.files g U} num xs k ent P:=by
 have K:Kept (fun s=>gc s=true\/∃f∈k.files,s=cY f.num) D {D with files:=iS D.files g U}:=Kept.append J.inj hg fun s E e=>by
  subst e;rcases E with E | ⟨f,y,e⟩
  ·rw[I]at E;cases E
  ·exact hf f y e.symm
 obtain⟨gm,gj,M,O,V,Y,Z,a6⟩:=h.man.disk.ex;refine⟨⟨⟨⟨gm,gj,M,O,K.file _ _ _ (.inl EC) M V,K.file _ _ _ (.inl (pq num)) O Y,Z,a6⟩,h.man.disk.own,h.man.disk.Of⟩,h.man.fold,h.man.know,h.man.each,h.man.head,h.man.tail,h.man.few,h.man.OH⟩,fun f y=>?_,h.only,h.lev,h.jn⟩;have z:=h.each f y;exact⟨z.here.kept K (.inr ⟨f,y,rfl⟩),z.least,z.most,z.num⟩
section
variable {v:eN}{B N:Nat}
abbrev eN.written (v:eN)(g z:Nat)(y:List ao):eN:=⟨{v.D with files:=iS v.D.files g ⟨al [] ((v.ws++[y]).map fy),z⟩},v.num,v.xs,v.k,v.ent,jd v.T y,v.ws++[y],v.seq+1,v.sure,v.H,v.W++y⟩
theorem cv.written (h:cv v B N 4)(af:cJ v.D){g I:Nat}(hg:br v.D.now (ez v.k.al)=some g)(hf:cw v.D.files g=some ⟨al [] (v.ws.map fy),I⟩)(ag:(al [] ((v.ws.take (v.sure-v.k.seq)).map fy)).length<=I){y:List ao}(aa:y≠[])
 (he:∀x∈y,fS x/\x.seq=v.seq+1) (hk:y.Pairwise fun a b=>a.key≠b.key) (av:v.T.length+y.length<=1024):cv (v.written g I y) (B+1) (N+y.length) 4:=by
 have K:v.k.al<4294967296:=h.disk.man.know.al;have hd:=h.disk.put af hg (oW _) (fun f O=>jJ (h.disk.z6 f O) K) ⟨al [] ((v.ws++[y]).map fy),I⟩
 have Y:∀s∈v.looks,s<=v.seq:=fun s E=>by
  rcases Zu.1 E with rfl | E
  ·exact Zm _
  ·obtain⟨q,hq,rfl⟩:=Zz.1 E
   exact(h.held q hq).1
 have hc:=h.cont.write Y (Zj ..) he hk
 have hp:(v.all++y).Perm (jd v.T y++lO v.k v.ent):=by
  have J:=(kD y v.T).append_right (lO v.k v.ent);refine List.Perm.trans ?_ J.symm;unfold eN.all;rw[Zr,Zr];exact zal.append_left _
 have ah:(jd v.T y).length=v.T.length+y.length:=by rw[(kD y v.T).length_eq,Ze]
 have z:fc (jd v.T y):=xG y h.rise (by
  have J:=hc.DN;unfold eN.all at J;rw[Zr]at J;refine List.Pairwise.sublist ?_ J
  exact(Xf _).append (List.sublist_append_right _ _))
 have Z:=h.many;have aj:=h.seq;have ai:=h.num;have ae:=h.next;have ak:=h.BD;have au:=h.vY;refine⟨⟨hd,z,(hc.perm hp).fewer fun s E=>?_,?_,by show (jd v.T y).length≤_;omega,h.lv0,h.lv1,h.lv3,by show v.num≤_;omega,by show v.k.next≤_;omega,by show v.seq+1≤_;omega,by show v.k.seq<=v.seq+1;omega,fun q hq=>?_,h.qw⟩,h.tf,⟨I,⟨g,hg,jK _ _ _ _ hf⟩,?_⟩,h.zK,?_,fun i U=>?_,?_,by show v.k.seq<=v.sure/\v.sure<=v.seq+1;omega⟩
 ·rcases Zu.1 E with rfl | E
  ·exact Zj ..
  ·exact Zh _ (Zh _ E)
 ·show (jd v.T y++lO v.k v.ent).length≤_
  rw[<-hp.length_eq,Ze];omega
 ·have:=h.held q hq;exact⟨zac this.1,this.2.1,zac this.2.2⟩
 ·show (al [] (((v.ws++[y]).take (v.sure-v.k.seq)).map fy)).length<=I
  rw[zar oMg];exact ag
 ·show (jd v.T y).Perm ((v.ws++[y]).flatten)
  rw[zZ,List.flatten_cons,zbp,ZH];exact(kD y v.T).trans (h.tab.append_right y)
 ·have U:i<(v.ws++[y]).length:=U
  rw[Ze,List.length_singleton]at U;show (v.ws++[y])[i]≠[]/\∀x∈(v.ws++[y])[i],x.seq=v.k.seq+i+1;by_cases M:i<v.ws.length
  ·rw[XY M]
   exact h.BH i M
  ·have V:i=v.ws.length:=oMg
   subst V;rw[List.getElem_append_right (Zm _)];simp only[zae,List.getElem_singleton];exact⟨aa,fun x hx=>by rw[(he x hx).2];omega⟩
 ·show v.seq+1=v.k.seq+(v.ws++[y]).length
  rw[Ze,List.length_singleton];omega
abbrev eN.synced (v:eN)(g:Nat):eN:=⟨{v.D with files:=iS v.D.files g ⟨al [] (v.ws.map fy),(al [] (v.ws.map fy)).length⟩},v.num,v.xs,v.k,v.ent,v.T,v.ws,v.seq,v.seq,v.H,v.W⟩
theorem cv.synced {J:Nat}(h:cv v B N J)(E:cJ v.D){g O:Nat}(I:br v.D.now (ez v.k.al)=some g)(K:cw v.D.files g=some ⟨al [] (v.ws.map fy),O⟩):cv (v.synced g) B N J:=by
 have y:v.k.al<4294967296:=h.disk.man.know.al;have hd:=h.disk.put E I (oW _) (fun f z=>jJ (h.disk.z6 f z) y) ⟨al [] (v.ws.map fy),(al [] (v.ws.map fy)).length⟩;have M:=h.BD;refine⟨⟨hd,h.rise,h.cont,h.many,h.small,h.lv0,h.lv1,h.lv3,h.num,h.next,h.seq,h.zN,h.held,h.qw⟩,h.tf,⟨_,⟨g,I,jK _ _ _ _ K⟩,?_⟩,h.zK,h.tab,h.BH,h.BD,⟨h.zN,Zm _⟩⟩;show (al [] ((v.ws.take (v.seq-v.k.seq)).map fy)).length≤_;rw[Zn oMg];exact Zm _
theorem tv (H:List (Nat×Nat))(s n:Nat):U64.cV (g6 H) s (.int .i64 (n:Int))=g6 (U64.cV H s n):=by
 unfold U64.cV g6;rw[List.any_map];have e:((fun p:Nat×Value=>decide (p.1=s))∘fun q:Nat×Nat=>(q.1,Value.int .i64 (q.2:Int)))=fun q:Nat×Nat=>decide (q.1=s):=rfl;rw[e]
 split
 ·rw[Yw,Yw]
  refine YS fun q _=>?_;simp only[Function.comp]
  split <;> rfl
 ·rw[ZP];rfl
theorem Jy (H:List (Nat×Nat))(s:Nat):U64.cG (g6 H) s=g6 (U64.cG H s):=by
 unfold U64.cG g6;rw[zav];rfl
theorem Jz (H:List (Nat×Nat))(s:Nat):U64.br (g6 H) s=(U64.br H s).map fun n=>.int .i64 (n:Int):=by
 unfold U64.br g6;rw[List.find?_map];simp only[Option.map_map];rfl
theorem pK {H:List (Nat×Nat)}{s n:Nat}(h:U64.br H s=some n):(s,n)∈H:=by
 unfold U64.br at h
 cases y:H.find? (fun p=>decide (p.1=s))with
 | none=>rw[y]at h;cases h
 | some q =>
   rw[y]at h;injection h with h;have z:=X4 y;have E:=YA y;simp only[decide_eq_true_eq]at z;obtain⟨a,b⟩:=q;simp only at h z;subst h z;exact E
theorem Cb {H:List (Nat×Nat)}{s:Nat}(h:U64.br H s=none):s ∉ H.map (·.1):=fun y=>by
 obtain⟨q,z,e⟩:=Zz.1 y;unfold U64.br at h;rw[Option.map_eq_none_iff,Y9]at h;have:=h q z;simp only[decide_eq_true_eq]at this;exact this e
theorem wP {H:List (Nat×Nat)}{s n:Nat}{q:Nat×Nat}(h:q∈U64.cV H s n):q=(s,n)\/(q∈H/\q.1≠s):=by
 unfold U64.cV at h
 split at h
 ·obtain⟨p,hp,rfl⟩:=Zz.1 h
  by_cases e:p.1=s
  ·rw[if_pos e];exact .inl (by rw[<-e])
  ·rw[if_neg e];exact .inr ⟨hp,e⟩
 ·rename_i hn
  rcases ZA.1 h with h | h
  ·refine .inr ⟨h,fun e=>hn (Yb.2 ⟨q,h,by simp[e]⟩)⟩
  ·rw[ZE]at h;exact .inl h
theorem z4 {H:List (Nat×Nat)}(h:(H.map (·.1)).Nodup)(s n:Nat):((U64.cV H s n).map (·.1)).Nodup:=by
 unfold U64.cV
 split
 ·have:((H.map fun p=>if p.1=s then (p.1,n)else p).map (·.1))=H.map (·.1):=by
   rw[Yw];refine YS fun q _=>?_;simp only[Function.comp]
   split <;> rfl
  rw[this];exact h
 ·rename_i hn
  rw[ZP,Yx];refine⟨h,by simp,fun a z b y e=>hn ?_⟩;obtain⟨q,E,rfl⟩:=Zz.1 z;simp only[Zy,Ye,ZE]at y;exact Yb.2 ⟨q,E,by simp;rw[e,y]⟩
theorem cv.holds {M n:Nat}(h:cv v B N M)(hn:0<n)(z:n<=B+1):cv {v with H:=U64.cV v.H v.seq n} (B+1) N M:=by
 have K:=h.seq;have J:=h.num;have E:=h.next;refine⟨⟨h.disk,h.rise,h.cont.fewer fun s I=>?_,h.many,h.small,h.lv0,h.lv1,h.lv3,by show v.num≤_;omega,by show v.k.next≤_;omega,by show v.seq≤_;omega,h.zN,fun q y=>?_,z4 h.qw _ _⟩,h.tf,h.Bq,h.zK,h.tab,h.BH,h.BD,h.vY⟩
 ·rcases Zu.1 I with rfl | I
  ·exact Zj ..
  ·obtain⟨q,y,rfl⟩:=Zz.1 I
   rcases wP y with rfl | ⟨y,_⟩
   ·exact Zj ..
   ·exact Zh _ (ZC y)
 ·rcases wP y with rfl | ⟨y,_⟩
  ·exact⟨Zm _,hn,z⟩
  ·have:=h.held q y;exact⟨this.1,this.2.1,oMg⟩
theorem cv.lets {V s n:Nat}(h:cv v B N V)(Y:U64.br v.H s=some (n+1))(E:List (Nat×Nat))(O:(n=0/\E=U64.cG v.H s)\/(0<n/\E=U64.cV v.H s n)):cv {v with H:=E} B N V:=by
 have I:=pK Y;have U:=h.held _ I
 have z:∀q∈E,q∈v.H\/(q=(s,n)/\0<n):=fun q y=>by
  rcases O with⟨rfl,rfl⟩ | ⟨J,rfl⟩
  ·exact .inl (ZT.subset y)
  ·rcases wP y with rfl | ⟨y,_⟩
   ·exact .inr ⟨rfl,J⟩
   ·exact .inl y
 have K:(E.map (·.1)).Nodup:=by
  rcases O with⟨rfl,rfl⟩ | ⟨J,rfl⟩
  ·exact h.qw.sublist (ZT.map _)
  ·exact z4 h.qw _ _
 refine⟨⟨h.disk,h.rise,h.cont.fewer fun Z M=>?_,h.many,h.small,h.lv0,h.lv1,h.lv3,h.num,h.next,h.seq,h.zN,fun q y=>?_,K⟩,h.tf,h.Bq,h.zK,h.tab,h.BH,h.BD,h.vY⟩
 ·rcases Zu.1 M with rfl | M
  ·exact Zj ..
  ·obtain⟨q,y,rfl⟩:=Zz.1 M
   rcases z q y with y | ⟨rfl,_⟩
   ·exact Zh _ (ZC y)
   ·exact Zh _ (Zz.2 ⟨_,I,rfl⟩)
 ·rcases z q y with y | ⟨rfl,J⟩
  ·exact h.held q y
  ·have:=U.2.2;exact⟨U.1,J,by show n<=B;have:n+1<=B:=this;omega⟩
theorem xJ:∀(l:List (List UInt8))(a:List UInt8),10*(al a l).length<=10*a.length+(11*(l.map List.length).sum+210*l.length)
 | [],a=>by simp[al]
 | r::l,a=>by
   rw[mO];have y:=xJ l (a++fz a.length true r);have z:=qN a.length true r;rw[Ze]at y;rw[Zy,List.sum_cons,List.length_cons];omega
theorem EI {z:List ao}(h:∀x∈z,fS x):(fy z).length<=311*z.length:=by
 unfold fy
 induction z with
 | nil=>simp
 | cons x z I =>
   have J:=ze (h x (Zj ..));have K:=I fun y E=>h y (Zh _ E);rw[Zp,Ze,List.length_cons];omega
theorem EJ:∀(ws:List (List ao)),(∀w∈ws,w≠[]/\∀x∈w,fS x)->((ws.map fy).map List.length).sum<=311*ws.flatten.length/\ws.length<=ws.flatten.length
 | [],_=>by simp
 | w::ws,h=>by
   have z:=h w (Zj ..);have I:=EJ ws fun y E=>h y (Zh _ E);have J:=EI z.2;have K:=ZO.2 z.1;simp only[Zy,List.sum_cons,List.flatten_cons,Ze,List.length_cons];omega
theorem cv.LH {J:Nat}(h:cv v B N J):10*(al [] (v.ws.map fy)).length<=3631*v.T.length:=by
 have z:=xJ (v.ws.map fy) []
 have K:=EJ v.ws fun w E=>by
  obtain⟨i,y,rfl⟩:=ZI.1 E;refine⟨(h.BH i y).1,fun x I=>h.toEnCore.okT x ?_⟩;exact h.tab.mem_iff.2 (Y1.2 ⟨_,Zq y,I⟩)
 have M:=h.tab.length_eq;simp only[List.length_nil,ZW]at z;omega
def BK (v:eN)(N:Nat):Prop:=(v.D.size=8388608/\N<=2300)\/(400000<=v.D.size/\(al [] (cf v.xs)).length<=30000/\N<=100/\ip v.T<=512)
theorem cv.fits (h:cv v B N 4)(z:cJ v.D)(hB:B<4294967296)(y:BK v N){r:List UInt8}(hr:r.length<=9952):(fz (al [] (v.ws.map fy)).length true r).length<=leftOf v.D/\(al [] (v.ws.map fy)).length+(fz (al [] (v.ws.map fy)).length true r).length<=1048576:=by
 have U:=h.LH;have V:=h.small;have Y:=qN (al [] (v.ws.map fy)).length true r;have J:=h.disk.used z (by have:=h.num;omega)
 have K:((jL v.k.al).map (pA v.D)).sum=(al [] (v.ws.map fy)).length:=by
  obtain⟨su,⟨g,E,I⟩,_⟩:=h.Bq;have:jL v.k.al=[ez v.k.al]:=by unfold jL;rw[if_neg (by have:=h.zK;omega)]
  rw[this];simp[uL E I]
 have Z:=h.toEnCore.files;have h7:=h.toEnCore.AK;have h8:=h.disk.man.LH z;rw[K]at J;unfold leftOf;rcases y with⟨M,O⟩ | ⟨M,O,r3,r4⟩
 ·exact⟨oMg,oMg⟩
 ·exact⟨oMg,oMg⟩
end
open Go.RowKit Go.Sl
attribute [local go_sem] ab bj bh bd
theorem J6 {w w0:World}{S T:ba} [m:Mod w w0 S](h:Mod w w0 S->Mod w w0 T):Mod w w0 T:=h m
def eV (e p:Nat)(v:eN)(w0:World)(F:ba)(w:World):Prop:=∃(I y z t E:Nat)(A:Option Addr)(c:Nat),v.k.files.length<=c/\Mod w w0 (o6 e p I y z t E A c v F)
theorem eV.ok {e p:Nat}{v:eN}{w0:World}{F:ba}{w:World}(h:eV e p v w0 F w):cJ v.D:=by
 obtain⟨J,y,z,t,I,A,c,E,m⟩:=h;exact p7 m (zbk:eM _ (bv p) v.D _)
theorem FZ (e p:Nat)(v:eN)(w w0:World)(F:ba)(h:eV e p v w0 F w):Calls Tryz.prog 14 #[ap e] w fun J O=>J=.returned (.int .u64 (v.seq:Int))/\eV e p v w0 F O:=by
 obtain⟨I,y,z,t,E,A,c,K,m⟩:=h;go_enter Tryz.func14,Tryz.ntmps14
 go_wp2_with (go_at_call 22;refine(hU e (ap p) (ap z) (ap t) (.int .u64 (v.seq:Int)) (.int .u64 (v.sure:Int)) (.map (some E)) I _ w0 _ m zbk).mono ?_;rintro ex w1 ⟨rfl,M⟩)
 go_ret
 exact⟨rfl,I,y,z,t,E,A,c,K,M⟩
theorem DT (e p:Nat)(v:eN)(w w0:World)(F:ba)(h:eV e p v w0 F w):Calls Tryz.prog 15 #[ap e] w fun J O=>J=.returned (.int .u64 (v.sure:Int))/\eV e p v w0 F O:=by
 obtain⟨I,y,z,t,E,A,c,K,m⟩:=h;go_enter Tryz.func15,Tryz.ntmps15
 go_wp2_with (go_at_call 22;refine(hU e (ap p) (ap z) (ap t) (.int .u64 (v.seq:Int)) (.int .u64 (v.sure:Int)) (.map (some E)) I _ w0 _ m zbk).mono ?_;rintro ex w1 ⟨rfl,M⟩)
 go_ret
 exact⟨rfl,I,y,z,t,E,A,c,K,M⟩
end Go.Proofs.YtdfppjcaelghhaaGreatDoor
