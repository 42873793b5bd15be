/- Plain lemmas and contracts; the conditions are in each. -/
import Derived.Test.YtdfppjcaelghhaaGreatDoorEnMg
import Derived.Test.YtdfppjcaelghhaaGreatDoorEnNG
set_option maxRecDepth 8000
set_option maxHeartbeats 16000000
namespace Go.Proofs.YtdfppjcaelghhaaGreatDoor
open Go.RowKit Go.Sl
attribute [local go_sem] ab bj bh bd
structure NV (v v':eN):Prop where
 T:v'.T=v.T
 ws:v'.ws=v.ws
 seq:v'.seq=v.seq
 sure:v'.sure=v.seq
 H:v'.H=v.H
 W:v'.W=v.W
 k:v'.k=v.k
 xs:v'.xs=v.xs
 size:v'.D.size=v.D.size
theorem DU (e p:Nat)(v:eN)(B N n0:Nat)(w w0:World)(F:ba)(h:eV e p v w0 F w)(Y:cv v B N n0):Calls Tryz.prog 17 #[ap e] w fun en w'=>en=.returned (.int .i64 0)/\∃v',cv v' B N n0/\NV v v'/\eV e p v' w0 F w':=by
 have V:=h.ok;obtain⟨mp,aa,M,t,hm,A,c,hc,m⟩:=h;have O:v.k.al<4294967296:=Y.disk.man.know.al;obtain⟨su,⟨g,hg,hf⟩,_⟩:=Y.Bq
 have af:Hid (∀(u:World)(G:ba),Mod u w0 (bv p v.D*(dt M p (ez v.k.al) (al [] (v.ws.map fy)).length*G))->Calls Tryz.prog 43 #[ap M] u fun en w'=>en=.returned (.int .i64 0)/\Mod w' w0 (bv p (v.synced g).D*(dt M p (ez v.k.al) (al [] (v.ws.map fy)).length*G))):=fun u G mu =>
  uA M p v.D (ez v.k.al) u w0 G _ mu (uy O) (vF O) g ⟨al [] (v.ws.map fy),su⟩ hg hf
 have HR:=zbj Y;have ae:=zbj (Y.synced V hg hf);have ai:=Y.vY;have ag:=zbj V;clear hg hf O Y V;by_cases ah:v.sure<v.seq
 ·have Z:(v.sure:Int)<(v.seq:Int):=oMg
  go_enter Tryz.func17,Tryz.ntmps17
  go_wp2_with (go_at_call 22;refine(hU e (ap p) (ap M) (ap t) (.int .u64 (v.seq:Int)) (.int .u64 (v.sure:Int)) (.map (some hm)) mp _ w0 _ m zbk).mono ?_;rintro ex w1 ⟨rfl,m1⟩;refine Hid.out ?_)
  refine zbj ?_;clear m;go_wp2_with fail
  refine wp_region_held_drew (S:=fun u=>u.cell? ⟨e,5,none⟩=some (.int .u64 (v.sure:Int))/\u.cell? ⟨e,4,none⟩=some (.int .u64 (v.seq:Int))/\u.cell? ⟨e,2,none⟩=some (ap M)) kRf (⟨Za,Za,Za⟩) (fun y=>?_);simp only[Zl,List.length_cons,List.length_nil,Nat.reduceAdd];obtain⟨W,U⟩:∃W,W=w1.drew:=⟨_,rfl⟩;have mW:Mod W w0 _:=U▸Mod.drew (m:=m1);rw[<-U]at y ⊢;clear U m1;refine Tk.go [(0,some 6),(1,some 7),(2,some 8),(3,some 9),(4,some 10),(5,some 11),(6,some 12),(7,some 13),(8,some 14),(9,some 15),(10,some 16),(11,some 17),(12,some 18),(13,some 19)] ?_
  repeat (
   refine Tk.gS (v:=?_) rfl (Or.inl ⟨by rfl,?_⟩) y ?_ (fun _ _ _ h=>h);rotate_left 1
   ·(intro u z;(try dsimp only at z);obtain⟨E,I,J⟩:=z;go_simp;try with_reducible rfl)
   simp only[Act.put,Zb,Zc,Zd])
  refine Tk.stop (Mk 14 (some 20) rfl rfl rfl fun K hK=>?_);go_simp
  refine(af.out _ _ (Mod.z9 (m:=mW) (bv p v.D) (dt M p (ez v.k.al) (al [] (v.ws.map fy)).length))).mono ?_;rintro ex w2 ⟨rfl,m2⟩;clear mW;refine hK.out (.int .i64 0) _ (⟨Za,Za,Za⟩) (fun y=>?_);clear hK K;simp only[Act.put,Zb,Zc,Zd];refine Tk.go [(15,some 21),(16,some 22)] ?_
  repeat (
   refine Tk.gS (v:=?_) rfl (Or.inl ⟨by rfl,?_⟩) y ?_ (fun _ _ _ h=>h);rotate_left 1
   ·(intro u z;(try dsimp only at z);obtain⟨E,I,J⟩:=z;go_simp;try with_reducible rfl)
   simp only[Act.put,Zb,Zc,Zd])
  refine Tk.stop (mH ?_);clear y;go_wp2_with fail
  go_ret
  refine⟨rfl,v.synced g,ae.out,⟨rfl,rfl,rfl,rfl,rfl,rfl,rfl,rfl,rfl⟩,mp,aa,M,t,hm,A,c,hc,J6 fun mm=>?_⟩;simp only[Zb,Zc,Zd]at mm;exact Mod.keep mm
 ·have Z:¬(v.sure:Int)<(v.seq:Int):=oMg
  go_enter Tryz.func17,Tryz.ntmps17
  go_wp2_with (go_at_call 22;refine(hU e (ap p) (ap M) (ap t) (.int .u64 (v.seq:Int)) (.int .u64 (v.sure:Int)) (.map (some hm)) mp _ w0 _ m zbk).mono ?_;rintro ex w1 ⟨rfl,m1⟩;refine Hid.out ?_)
  refine zbj ?_;clear m;go_wp2_with fail
  refine wp_region_held_drew (S:=fun u=>u.cell? ⟨e,5,none⟩=some (.int .u64 (v.sure:Int))/\u.cell? ⟨e,4,none⟩=some (.int .u64 (v.seq:Int))/\u.cell? ⟨e,2,none⟩=some (ap M)) kRf (⟨Za,Za,Za⟩) (fun y=>?_);simp only[Zl,List.length_cons,List.length_nil,Nat.reduceAdd];obtain⟨W,U⟩:∃W,W=w1.drew:=⟨_,rfl⟩;have mW:Mod W w0 _:=U▸Mod.drew (m:=m1);rw[<-U]at y ⊢;clear U m1;refine Tk.go [(0,some 6),(1,some 7),(2,some 8),(3,some 9),(4,some 10),(5,some 11),(6,some 12),(7,some 13),(8,some 14),(9,some 15),(10,some 16),(11,some 17),(12,some 18),(13,some 19),(14,some 20),(15,some 21),(16,some 22)] ?_;refine Tk.gS (v:=?_) rfl (Or.inl ⟨by rfl,?_⟩) y ?_ (fun _ _ _ h=>h);rotate_left 1
  ·(intro u z;(try dsimp only at z);obtain⟨E,I,J⟩:=z;go_simp;try with_reducible rfl)
  simp only[Act.put,Zb,Zc,Zd];refine Tk.gS (v:=?_) rfl (Or.inl ⟨by rfl,?_⟩) y ?_ (fun _ _ _ h=>h);rotate_left 1
  ·(intro u z;(try dsimp only at z);obtain⟨E,I,J⟩:=z;go_simp;try with_reducible rfl)
  simp only[Act.put,Zb,Zc,Zd];refine Tk.gS (v:=?_) rfl (Or.inl ⟨by rfl,?_⟩) y ?_ (fun _ _ _ h=>h);rotate_left 1
  ·(intro u z;(try dsimp only at z);obtain⟨E,I,J⟩:=z;go_simp;try with_reducible rfl)
  simp only[Act.put,Zb,Zc,Zd];refine Tk.gS (v:=?_) rfl (Or.inl ⟨by rfl,?_⟩) y ?_ (fun _ _ _ h=>h);rotate_left 1
  ·(intro u z;(try dsimp only at z);obtain⟨E,I,J⟩:=z;go_simp;try with_reducible rfl)
  simp only[Act.put,Zb,Zc,Zd];refine Tk.gS (v:=?_) rfl (Or.inl ⟨by rfl,?_⟩) y ?_ (fun _ _ _ h=>h);rotate_left 1
  ·(intro u z;(try dsimp only at z);obtain⟨E,I,J⟩:=z;go_simp;try with_reducible rfl)
  simp only[Act.put,Zb,Zc,Zd];refine Tk.gS (v:=?_) rfl (Or.inl ⟨by rfl,?_⟩) y ?_ (fun _ _ _ h=>h);rotate_left 1
  ·(intro u z;(try dsimp only at z);obtain⟨E,I,J⟩:=z;go_simp;try with_reducible rfl)
  simp only[Act.put,Zb,Zc,Zd];refine Tk.gS (v:=?_) rfl (Or.inl ⟨by rfl,?_⟩) y ?_ (fun _ _ _ h=>h);rotate_left 1
  ·(intro u z;(try dsimp only at z);obtain⟨E,I,J⟩:=z;go_simp;try with_reducible rfl)
  simp only[Act.put,Zb,Zc,Zd];refine Tk.gS (v:=?_) rfl (Or.inl ⟨by rfl,?_⟩) y ?_ (fun _ _ _ h=>h);rotate_left 1
  ·(intro u z;(try dsimp only at z);obtain⟨E,I,J⟩:=z;go_simp;try with_reducible rfl)
  simp only[Act.put,Zb,Zc,Zd];refine Tk.gS (v:=?_) rfl (Or.inl ⟨by rfl,?_⟩) y ?_ (fun _ _ _ h=>h);rotate_left 1
  ·(intro u z;(try dsimp only at z);obtain⟨E,I,J⟩:=z;go_simp;try with_reducible rfl)
  simp only[Act.put,Zb,Zc,Zd];refine Tk.gS (v:=?_) rfl (Or.inl ⟨by rfl,?_⟩) y ?_ (fun _ _ _ h=>h);rotate_left 1
  ·(intro u z;(try dsimp only at z);obtain⟨E,I,J⟩:=z;go_simp;try with_reducible rfl)
  simp only[Act.put,Zb,Zc,Zd];refine Tk.gS (v:=undef) rfl (Or.inr ⟨by rfl,rfl⟩) y ?_ (fun _ _ _ h=>h);simp only[Act.put,Zb,Zc,Zd];refine Tk.gS (v:=undef) rfl (Or.inr ⟨by rfl,rfl⟩) y ?_ (fun _ _ _ h=>h);simp only[Act.put,Zb,Zc,Zd];refine Tk.gS (v:=undef) rfl (Or.inr ⟨by rfl,rfl⟩) y ?_ (fun _ _ _ h=>h);simp only[Act.put,Zb,Zc,Zd];refine Tk.gS (v:=undef) rfl (Or.inr ⟨by rfl,rfl⟩) y ?_ (fun _ _ _ h=>h);simp only[Act.put,Zb,Zc,Zd];refine Tk.gS (v:=undef) rfl (Or.inr ⟨by rfl,rfl⟩) y ?_ (fun _ _ _ h=>h);simp only[Act.put,Zb,Zc,Zd];refine Tk.gS (v:=undef) rfl (Or.inr ⟨by rfl,rfl⟩) y ?_ (fun _ _ _ h=>h);simp only[Act.put,Zb,Zc,Zd];refine Tk.gS (v:=?_) rfl (Or.inl ⟨by rfl,?_⟩) y ?_ (fun _ _ _ h=>h);rotate_left 1
  ·(intro u z;(try dsimp only at z);obtain⟨E,I,J⟩:=z;go_simp;try with_reducible rfl)
  simp only[Act.put,Zb,Zc,Zd];refine Tk.stop (mH ?_);clear y;go_wp2_with fail
  go_ret
  exact⟨rfl,v,HR.out,⟨rfl,rfl,rfl,oMg,rfl,rfl,rfl,rfl,rfl⟩,mp,aa,M,t,hm,A,c,hc,mW⟩
def jB (v:eN)(s:Nat):Bool:=decide (s=v.seq)||(U64.br v.H s).isSome
theorem qz {H:List (Nat×Nat)}(s:Nat):(U64.br (g6 H) s).getD (Tryz.prog.zeroOf (Tryz.prog.mapElem 64))=.int .i64 (((U64.br H s).getD 0:Nat):Int):=by
 rw[Jz]
 cases U64.br H s with
 | some n=>rfl
 | none=>kernel_rfl
theorem oK (e p s:Nat)(v:eN)(B N n0:Nat)(w w0:World)(F:ba)(h:eV e p v w0 F w)(hr:cv v B N n0):Calls Tryz.prog 37 #[ap e,.int .u64 (s:Int)] w fun en w'=>en=.returned (.bool (jB v s))/\eV e p v w0 F w':=by
 obtain⟨K,z,E,t,I,A,c,Z,m⟩:=h;have U:=qz (H:=v.H) s;obtain⟨n,hn⟩:∃n,(U64.br v.H s).getD 0=n:=⟨_,rfl⟩;rw[hn]at U
 have y:(U64.br v.H s).isSome=decide (0<n):=by
  cases O:U64.br v.H s with
  | none=>rw[O]at hn;simp at hn;subst hn;rfl
  | some q =>
    rw[O]at hn;simp at hn;subst hn;have:=(hr.held _ (pK O)).2.1;simp only[Option.isSome_some];exact(decide_eq_true this).symm
 have Y:Hid (jB v s=(decide (s=v.seq)||decide (0<n))):=by show _=_;unfold jB;rw[y]
 clear hn y;by_cases J:s=v.seq
 ·have hb:(((s:Int)==(v.seq:Int))=true):=beq_iff_eq.2 oMg
  have M:Hid (jB v s=true):=by show _=_;rw[Y.out,decide_eq_true J,zbd]
  clear J;go_enter Tryz.func37,Tryz.ntmps37
  go_wp2_with (go_at_call 22;refine(hU e (ap p) (ap E) (ap t) (.int .u64 (v.seq:Int)) (.int .u64 (v.sure:Int)) (.map (some I)) K _ w0 _ m zbk).mono ?_;rintro ex w1 ⟨rfl,V⟩)
  go_ret
  exact⟨by rw[M.out];rfl,K,z,E,t,I,A,c,Z,V⟩
 ·have hb:(((s:Int)==(v.seq:Int))=false):=beq_eq_false_iff_ne.2 oMg
  have M:Hid (jB v s=decide (0<n)):=by show _=_;rw[Y.out,decide_eq_false J,za5]
  clear J;go_enter Tryz.func37,Tryz.ntmps37
  go_wp2_with (go_at_call 22;refine(hU e (ap p) (ap E) (ap t) (.int .u64 (v.seq:Int)) (.int .u64 (v.sure:Int)) (.map (some I)) K _ w0 _ m zbk).mono ?_;rintro ex w1 ⟨rfl,V⟩)
  go_ret
  exact⟨by rw[M.out];rfl,K,z,E,t,I,A,c,Z,V⟩
theorem kZ (q:Nat×Nat)(L:List (Nat×Nat))(t:Nat):U64.br (q::L) t=if q.1=t then some q.2 else U64.br L t:=by
 unfold U64.br;rw[List.find?_cons];by_cases h:q.1=t <;> simp[h]
theorem Cc (s t v:Nat):∀L:List (Nat×Nat),U64.br (L.map fun q=>if q.1=s then (q.1,v)else q) t=if t=s then (U64.br L s).map (fun _=>v)else U64.br L t
 | []=>by simp[U64.br]
 | q::L=>by
   rw[Zy,kZ,Cc s t v L,kZ,kZ];by_cases z:q.1=s
   ·rw[if_pos z]
    by_cases y:t=s
    ·subst y;simp[z]
    ·have E:¬q.1=t:=fun e=>y (by rw[<-e,z])
     simp[y,E]
   ·rw[if_neg z]
    by_cases y:t=s
    ·subst y;simp[z]
    ·simp[y]
theorem xE (s t v:Nat):∀L:List (Nat×Nat),U64.br L s=none->U64.br (L++[(s,v)]) t=if t=s then some v else U64.br L t
 | [],_=>by
   rw[List.nil_append,kZ];by_cases h:t=s
   ·subst h;simp
   ·have z:¬s=t:=fun e=>h e.symm
    simp[h,z]
 | q::L,hL=>by
   rw[kZ]at hL;by_cases y:q.1=s
   ·rw[if_pos y]at hL;cases hL
   ·rw[if_neg y]at hL
    rw[List.cons_append,kZ,kZ,xE s t v L hL];by_cases h:t=s
    ·subst h;simp[y]
    ·simp[h]
theorem qx (L:List (Nat×Nat))(s t v:Nat):U64.br (U64.cV L s v) t=if t=s then some v else U64.br L t:=by
 unfold U64.cV
 split
 ·rename_i h
  rw[Cc]
  split
  ·obtain⟨q,E,y⟩:=Yb.1 h
   have y:q.1=s:=by simpa using y
   cases z:U64.br L s with
   | some x=>rfl
   | none=>exact absurd (Zz.2 ⟨q,E,y⟩) (Cb z)
  ·rfl
 ·rename_i h
  refine xE s t v L ?_
  cases z:U64.br L s with
  | none=>rfl
  | some x=>exact absurd (Yb.2 ⟨_,pK z,by simp⟩) h
theorem JB (L:List (Nat×Nat))(s v t:Nat):t∈(U64.cV L s v).map (·.1)↔t=s\/t∈L.map (·.1):=by
 have key:∀(M:List (Nat×Nat))(u:Nat),u∈M.map (·.1)↔U64.br M u≠none:=fun M u=>by
  constructor
  ·exact fun z hn=>Cb hn z
  ·intro hn
   cases y:U64.br M u with
   | none=>exact absurd y hn
   | some x=>exact Zz.2 ⟨_,pK y,rfl⟩
 rw[key,key,qx];by_cases h:t=s
 ·subst h;simp
 ·simp[h]
theorem D9 (L:List (Nat×Nat))(s t:Nat):U64.br (U64.cG L s) t=if t=s then none else U64.br L t:=by
 unfold U64.cG
 induction L with
 | nil=>simp[U64.br]
 | cons q L z =>
   by_cases y:q.1=s
   ·rw[ZQ (by simp[y]),z,kZ]
    by_cases h:t=s
    ·rw[if_pos h,if_pos h]
    ·have E:¬q.1=t:=fun e=>h (by rw[<-e,y])
     rw[if_neg h,if_neg h,if_neg E]
   ·rw[ZZ (by simp[y]),kZ,kZ,z]
    by_cases h:t=s
    ·subst h;simp[y]
    ·simp[h]
theorem LF (L:List (Nat×Nat))(s v:Nat):U64.cG (U64.cV L s v) s=U64.cG L s:=by
 unfold U64.cG U64.cV
 split
 ·have z:∀L:List (Nat×Nat),(L.map fun q=>if q.1=s then (q.1,v)else q).filter (fun q => !decide (q.1=s))=L.filter fun q => !decide (q.1=s):=by
   intro L
   induction L with
   | nil=>rfl
   | cons q L y =>
     rw[Zy];by_cases h:q.1=s
     ·rw[if_pos h,ZQ (by simp[h]),ZQ (by simp[h]),y]
     ·rw[if_neg h,ZZ (by simp[h]),ZZ (by simp[h]),y]
  exact z L
 ·rw[Yp,ZQ (by simp),List.filter_nil,ZH]
theorem xp (e p:Nat)(v:eN)(B N n0:Nat)(w w0:World)(F:ba)(h:eV e p v w0 F w)(J:cv v B N n0)(hB:B<=1000000):Calls Tryz.prog 9 #[ap e] w fun Z w'=>Z=.returned (.int .u64 (v.seq:Int))/\∃y,(∀s,s∈y.map (·.1)↔s=v.seq\/s∈v.H.map (·.1))/\U64.br y v.seq=some ((U64.br v.H v.seq).getD 0+1)/\(∀s,s≠v.seq->U64.br y s=U64.br v.H s)/\cv {v with H:=y} (B+1) N n0/\eV e p {v with H:=y} w0 F w':=by
 obtain⟨U,K,M,t,I,A,c,hc,m⟩:=h;have E:=qz (H:=v.H) v.seq;obtain⟨n,hn⟩:∃n,(U64.br v.H v.seq).getD 0=n:=⟨_,rfl⟩;rw[hn]at E
 have aa:n<=B:=by
  cases z:U64.br v.H v.seq with
  | none=>rw[z]at hn;simp at hn;omega
  | some q=>rw[z]at hn;simp at hn;subst hn;exact(J.held _ (pK z)).2.2
 have V:=zbj hn;have Y:=zbj (J.holds (n:=n+1) oMg oMg);have hw:wrap64 ((n:Int)+1)=((n+1:Nat):Int):=by unfold wrap64;omega
 clear hn J;go_enter Tryz.func9,Tryz.ntmps9
 go_wp2_with (go_at_call 22;refine(hU e (ap p) (ap M) (ap t) (.int .u64 (v.seq:Int)) (.int .u64 (v.sure:Int)) (.map (some I)) U _ w0 _ m zbk).mono ?_;rintro ex w1 ⟨rfl,m1⟩;refine Hid.out ?_)
 refine zbj ?_;clear m;go_wp2_with fail
 go_region
 go_wp2_with fail
 go_ret
 have O:Mod (w1.drew.mQ I v.seq (.int .i64 ((n:Int)+1))) w0 _:=zbk;refine⟨rfl,U64.cV v.H v.seq (n+1),fun s=>JB _ _ _ _,?_,fun s hs=>?_,Y.out,U,K,M,t,I,A,c,hc,?_⟩
 ·rw[qx,if_pos rfl,V.out]
 ·rw[qx,if_neg hs]
 ·have e:((n:Int)+1)=((n+1:Nat):Int):=oMg
  rw[e,tv]at O;rw[e];exact Mod.keep O
theorem zb (e p s:Nat)(v:eN)(B N n0:Nat)(w w0:World)(F:ba)(h:eV e p v w0 F w)(Z:cv v B N n0)(n:Nat)(K:U64.br v.H s=some (n+1))(hB:B<=1000000):Calls Tryz.prog 13 #[ap e,.int .u64 (s:Int)] w fun en w'=>en=.returned (.int .i64 0)/\∃O,(∀u,U64.br O u=if u=s then (if n=0 then none else some n)else U64.br v.H u)/\cv {v with H:=O} B N n0/\eV e p {v with H:=O} w0 F w':=by
 obtain⟨M,E,J,t,z,A,c,hc,m⟩:=h;have Y:=qz (H:=v.H) s;rw[K,Option.getD_some]at Y;have ae:n+1<=B:=(Z.held _ (pK K)).2.2;have hw:wrap64 (((n+1:Nat):Int)-1)=(n:Int):=by unfold wrap64;omega
 have hz:((((n+1:Nat):Int)==0)=false):=beq_eq_false_iff_ne.2 oMg;have y:=qz (H:=U64.cV v.H s n) s;rw[qx,if_pos rfl,Option.getD_some,<-tv]at y;have HR:=zbj Z;have HG:=zbj K;clear Z K;by_cases h0:n=0
 ·subst h0
  have U:=zbj (HR.out.lets HG.out (U64.cG v.H s) (.inl ⟨rfl,rfl⟩));have aa:(U64.br (U64.cV (g6 v.H) s (.int .i64 0)) s).getD (Tryz.prog.zeroOf (Tryz.prog.mapElem 64))=.int .i64 0:=y;clear y;go_enter Tryz.func13,Tryz.ntmps13
  go_wp2_with (go_at_call 22;refine(hU e (ap p) (ap J) (ap t) (.int .u64 (v.seq:Int)) (.int .u64 (v.sure:Int)) (.map (some z)) M _ w0 _ m zbk).mono ?_;rintro ex w1 ⟨rfl,m1⟩)
  go_ret
  have I:Mod ((w1.mQ z s (.int .i64 0)).oP z s) w0 _:=zbk;refine⟨rfl,U64.cG v.H s,fun u=>by first | exact D9 _ _ _ | (rw[D9];rfl),U.out,M,E,J,t,z,A,c,hc,?_⟩
  have e:U64.cG (U64.cV (g6 v.H) s (.int .i64 0)) s=g6 (U64.cG v.H s):=by
   have h1:=tv v.H s 0;rw[show (Value.int .i64 0)=Value.int .i64 ((0:Nat):Int)from rfl,h1,Jy,LF]
  rw[e]at I;exact Mod.keep I
 ·have V:=zbj (HR.out.lets HG.out (U64.cV v.H s n) (.inr ⟨oMg,rfl⟩))
  have af:(((n:Int)==0)=false):=beq_eq_false_iff_ne.2 oMg;go_enter Tryz.func13,Tryz.ntmps13
  go_wp2_with (go_at_call 22;refine(hU e (ap p) (ap J) (ap t) (.int .u64 (v.seq:Int)) (.int .u64 (v.sure:Int)) (.map (some z)) M _ w0 _ m zbk).mono ?_;rintro ex w1 ⟨rfl,m1⟩)
  go_ret
  have I:Mod (w1.mQ z s (.int .i64 (n:Int))) w0 _:=zbk;refine⟨rfl,U64.cV v.H s n,fun u=>by first | exact qx _ _ _ _ | (rw[qx,if_neg h0]),V.out,M,E,J,t,z,A,c,hc,?_⟩;rw[tv]at I;exact Mod.keep I
theorem za (e p s:Nat)(v:eN)(w w0:World)(F:ba)(h:eV e p v w0 F w)(I:U64.br v.H s=none):Calls Tryz.prog 13 #[ap e,.int .u64 (s:Int)] w fun M V=>M=.returned (.int .i64 7)/\eV e p v w0 F V:=by
 obtain⟨K,z,E,t,J,A,c,O,m⟩:=h;have y:=qz (H:=v.H) s;rw[I,Option.getD_none]at y;clear I;go_enter Tryz.func13,Tryz.ntmps13
 go_wp2_with (go_at_call 22;refine(hU e (ap p) (ap E) (ap t) (.int .u64 (v.seq:Int)) (.int .u64 (v.sure:Int)) (.map (some J)) K _ w0 _ m zbk).mono ?_;rintro ex w1 ⟨rfl,U⟩)
 go_ret
 exact⟨rfl,K,z,E,t,J,A,c,O,U⟩
def p8 (z y:ByteArray)(f:bi):Bool:=(Op.bytesLess f.least.toList y.toList||f.least.toList==y.toList) && !Op.bytesLess f.most.toList z.toList
abbrev lL (y:ByteArray)(T:List ao):List ao:=qs ⟨y,18446744073709551615,true,⟨#[]⟩⟩ T
def kV (v:eN)(y E:ByteArray)(z:List bi):List (List ao):=lL y v.T::(z.filter (p8 y E)).map fun f=>v.ent f.num
theorem G5 (v:eN)(y z:ByteArray){l:List bi}{i:Nat}(h:i<l.length):kV v y z (l.take (i+1))=if p8 y z l[i]=true then kV v y z (l.take i)++[v.ent l[i].num]else kV v y z (l.take i):=by
 unfold kV;rw[Zx h,Yp];by_cases E:p8 y z l[i]=true
 ·rw[if_pos E,ZZ E];simp
 ·rw[if_neg E,ZQ E];simp
theorem Bi (e p gl be bf bt mp af ej t hm:Nat)(A:Option Addr)(c:Nat)(v:eN)(B N n0:Nat)(J kt:ByteArray)(hr:cv v B N n0)(bL:n0<=100)(w w0:World)(F:ba)
 (m:Mod w w0 (aE gl (.cells #[.slice none 0 0] 143 (0,0))*(aE be (.cells #[ap e] 26 (0,0))*(aE bf (.cells #[.string J] 9 (0,0))*(aE bt (.cells #[.string kt] 9 (0,0))*o6 e p mp af ej t hm A c v F))))) (tab:fX F) :
 Calls Tryz.prog 84 #[ap gl,ap be,ap bf,ap bt] w fun en w'=>en=.returned (.tuple #[])/\∃(Y:Option Addr)(I Z:Nat)(runs:List cQ),Hid (runs.map (·.l)=kV v J kt v.k.files)/\runs.length=I/\I<=200/\∃G:ba,Hid (jb G runs)/\Mod w' w0 (aE gl (.cells #[.slice Y I Z] 143 (0,0))*(ar 59 1 (.slice Y I Z) I (et runs)*(G*(aE be (.cells #[ap e] 26 (0,0))*(aE bf (.cells #[.string J] 9 (0,0))*(aE bt (.cells #[.string kt] 9 (0,0))*o6 e p mp af ej t hm A c v F)))))):=by
 have HC:=zbj hr;have aR:=zbj tab;have aY:=hr.small;obtain⟨M,ae⟩:∃n,(lL J v.T).length=n:=⟨_,rfl⟩;have aW:M<=1024:=by rw[<-ae];exact Yl (Y7 _ _) aY
 have aN:Hid (∀(u:World)(X:ba),Mod u w0 (im t v.T*X)->Calls Tryz.prog 68 #[ap t,.agg #[.string J,.int .u64 18446744073709551615,.bool true],.int .i64 4096] u fun en w'=>∃E z,en=.returned (.slice E M z)/\M<=z/\Mod w' w0 (ar 71 4 (.slice E M z) M ((lL J v.T).flatMap ao.cells)*(im t v.T*X))):=fun u X mu=>by
  have h1:=x8 t v.T ⟨J,18446744073709551615,true,⟨#[]⟩⟩ 4096 (by decide) u w0 X mu;have aV:(qs ⟨J,18446744073709551615,true,⟨#[]⟩⟩ v.T).length=M:=ae;rw[Zn oMg,aV]at h1;refine h1.mono ?_;rintro en w' ⟨E,z,h2,m2⟩;exact⟨E,z,h2,i7 m2,m2⟩
 have aP:=zbj ae;have bB:v.k.files.length<=150:=by have:=hr.toEnCore.files;omega
 have av:∀f∈v.k.files,(v.ent f.num).length<=4096:=fun f hf=>(hr.disk.each f hf).here.len;have aG:=zbj av;clear hr tab aY ae av;obtain⟨I,Y,Z,runs,ax,aH,aJ,ah⟩:∃(I:Nat)(Y:Option Addr)(Z:Nat)(runs:List cQ),I=0/\Y=none/\Z=0/\runs=[]:=⟨_,_,_,_,rfl,rfl,rfl,rfl⟩
 have m1:Mod w w0 (ar 59 1 (.slice Y I Z) I (et runs)*(aE gl (.cells #[.slice Y I Z] 143 (0,0))*(aE be (.cells #[ap e] 26 (0,0))*(aE bf (.cells #[.string J] 9 (0,0))*(aE bt (.cells #[.string kt] 9 (0,0))*o6 e p mp af ej t hm A c v F))))):=by
  subst ax aH aJ ah;exact ey (e:=59) (size:=1) m
 have ai:=zbj (And.intro ax (And.intro aH (And.intro aJ ah)));have bC:I<=0:=oMg
 clear ax aH aJ ah m;go_enter Tryz.func84,Tryz.ntmps84
 go_wp2_with fail
 refine eS 10 (fun u=>u.cell? ⟨be,0,none⟩=some (ap e)/\u.cell? ⟨gl,0,none⟩=some (.slice Y I Z)/\u.cell? ⟨e,3,none⟩=some (ap t)/\u.cell? ⟨bf,0,none⟩=some (.string J)) kRf (⟨Za,Za,Za,Za⟩) (fun y=>?_);simp only[Zl,List.length_cons,List.length_nil,Nat.reduceAdd];obtain⟨W,hW⟩:∃W,W=w.drew:=⟨_,rfl⟩;have mW:Mod W w0 _:=hW▸Mod.drew (m:=m1);rw[<-hW]at y ⊢;clear hW m1;refine Tk.go [(0,some 6),(1,some 7),(2,some 8),(3,some 9),(4,some 10),(5,some 11),(6,some 12)] ?_
 repeat (
  refine Tk.one (v:=?_) rfl (Or.inl ⟨by rfl,?_⟩) y ?_ (fun _ _ _ h=>h);rotate_left 1
  ·(intro u hu;(try dsimp only at hu);obtain⟨bF,bG,bH,bI⟩:=hu;go_simp;try with_reducible rfl)
  simp only[Act.put,Zb,Zc,Zd])
 refine Tk.stop (sX 7 (some 13) rfl rfl rfl fun K V=>?_);go_simp
 refine(aN.out _ _ (Mod.pull (m:=mW) (im t v.T))).mono ?_;rintro ex w2 ⟨E,z,rfl,bz,m2⟩;clear mW;refine V.out (.slice E M z) _ (⟨Za,Za,Za,Za⟩) (fun y=>?_);clear V K;simp only[Act.put,Zb,Zc,Zd];refine(sX 8 (some 14) rfl rfl rfl fun K V=>?_);refine jN (t:=143) (v:=.slice E M z) rfl rfl rfl ?_;obtain⟨gg,ag⟩:∃x,w2.heap.size=x:=⟨_,rfl⟩;have m3:Mod (w2.alloc (.cells #[.slice E M z] 59)) w0 (aE gg (.cells #[.slice E M z] 59 (0,0))*_):=Mod.alloc (m:=m2) (hn:=⟨ag⟩) _;rw[ag];generalize w2.alloc (.cells #[.slice E M z] 59)=w3 at *;clear ag m2;refine V.out (.slice (some ⟨gg,0,none⟩) 1 1) _ (⟨Za,Za,Za,Za⟩) (fun y=>?_);clear V K;simp only[Act.put,Zb,Zc,Zd];refine(sX 9 (some 15) rfl rfl rfl fun K V=>?_);refine cI (t:=143) rfl (Mod.pull (m:=m3) (ar 59 1 (.slice Y I Z) I (et runs))) (v:=.slice Y I Z) (n:=I) (xs:=et runs) rfl (A:=some ⟨gg,0,none⟩) (k:=1) (c:=1) (news:=[.slice E M z]) rfl (r:=ce rfl rfl) (by simp[Value.oneCell']) (by unfold maxLen;omega) oMg ?_;intro O U w4 m4;clear m3;refine V.out (.slice O (I+1) U) _ (⟨Za,Za,Za,Za⟩) (fun y=>?_);clear V K;simp only[Act.put,Zb,Zc,Zd];refine(Aa none rfl rfl rfl fun K V=>?_);go_simp
 refine V.out undef _ ?_;clear V K y;simp only[Act.put];have m5:Mod (w4.setCell ⟨gl,0,none⟩ (.slice O (I+1) U)) w0 _:=zbk;simp only[Zb,Zc]at m5;generalize w4.setCell ⟨gl,0,none⟩ (.slice O (I+1) U)=w5 at *;clear m4;obtain⟨rfl,rfl,rfl,rfl⟩:=ai.out
 have m6:Mod w5 w0 (aE gl (.cells #[.slice O 1 U] 143 (0,0))*(ar 59 1 (.slice O 1 U) 1 (et [⟨E,z,lL J v.T⟩])*(ar 71 4 (.slice E M z) M ((lL J v.T).flatMap ao.cells)*(aE be (.cells #[ap e] 26 (0,0))*(aE bf (.cells #[.string J] 9 (0,0))*(aE bt (.cells #[.string kt] 9 (0,0))*o6 e p mp af ej t hm A c v F)))))):=by
  have e1:et [⟨E,z,lL J v.T⟩]=et []++[.slice E M z]:=iL [] E z M (lL J v.T) aP.out;rw[e1];exact Mod.keep m5
 clear m5 aN ai;have aO:=zbj (fun(u:World)(X:ba)(mu:Mod u w0 (gA mp p (ap af) v.num v.xs.length (.slice A v.k.files.length v.k.files.length) v.k.nums*(kJ A c v.k.files*X)))=>sR mp p (ap af) v.num v.xs.length A c v.k u w0 X mu oMg);go_wp2_with (go_at_call 42;refine(aO.out _ _ (Mod.z9 (m:=m6) (gA mp p (ap af) v.num v.xs.length (.slice A v.k.files.length v.k.files.length) v.k.nums) (kJ A c v.k.files))).mono ?_;rintro ex w7 ⟨AF,cF,rfl,bu,m7⟩;refine Hid.out ?_)
 refine zbj ?_;clear m6 aO;obtain⟨S0,ak⟩:∃S,S=o6 e p mp af ej t hm A c v F:=⟨_,rfl⟩
 have bg:Hid (∀(u:World)(X:ba)(f:bi),f∈v.k.files->Mod u w0 (S0*X)->Calls Tryz.prog 85 #[ap e,.agg #[.int .u32 (f.num:Int),.int .i64 f.level,.string f.least,.string f.most]] u fun en w'=>∃E z,en=.returned (.slice E (v.ent f.num).length z)/\(v.ent f.num).length<=z/\Mod w' w0 (ar 71 4 (.slice E (v.ent f.num).length z) (v.ent f.num).length ((v.ent f.num).flatMap ao.cells)*(S0*X))):=fun u X f hf mu=>by
  rw[ak]at mu;refine(Ae e p (ap mp) (ap ej) (ap t) (.int .u64 (v.seq:Int)) (.int .u64 (v.sure:Int)) (.map (some hm)) v.D f (HC.out.disk.z6 f hf) (v.ent f.num) (HC.out.disk.each f hf).here u w0 _ (Mod.z9 (m:=mu) (bv p v.D) (jT e p (ap mp) (ap ej) (ap t) (.int .u64 (v.seq:Int)) (.int .u64 (v.sure:Int)) (.map (some hm)))) (aR.out.lift zbk)).mono ?_;rintro en w' ⟨E,z,h1,h2,m2⟩;exact⟨E,z,h1,h2,by rw[ak];exact Mod.keep m2⟩
 have m8:Mod w7 w0 (aE gl (.cells #[.slice O 1 U] 143 (0,0))*(ar 59 1 (.slice O 1 U) 1 (et [⟨E,z,lL J v.T⟩])*(ar 71 4 (.slice E M z) M ((lL J v.T).flatMap ao.cells)*(kJ AF cF v.k.files*(aE be (.cells #[ap e] 26 (0,0))*(aE bf (.cells #[.string J] 9 (0,0))*(aE bt (.cells #[.string kt] 9 (0,0))*S0))))))):=by
  rw[ak];exact Mod.keep m7
 have bn:=zbj ak
 have aX:jb (ar 71 4 (.slice E M z) M ((lL J v.T).flatMap ao.cells)) [⟨E,z,lL J v.T⟩]:=fun x hx=>by
  rw[ZE]at hx;subst hx;have h1:=aP.out;refine⟨?_,by show (lL J v.T).length<=z;omega,by show (lL J v.T).length≤_;omega⟩;show bp _ E (lL J v.T).length (lL J v.T);rw[h1];exact⟨h1,fh (by decide)⟩
 have bq:=zbj aX;obtain⟨nf,aM⟩:∃n,v.k.files.length=n:=⟨_,rfl⟩;rw[aM]at bB bu ⊢;have aT:=zbj aM;clear ak m7 aX aM;go_wp2_with fail
 go_loopg [22] nf (fun gk bJ wr=>∃(r I Z:Nat)(Y:Option Addr)(runs:List cQ)(G:ba),r<=nf/\gk=nf-r/\bJ=.int .i64 (r:Int)/\I<=r+1/\Hid (runs.length=I)/\Hid (runs.map (·.l)=kV v J kt (v.k.files.take r))/\Hid (jb G runs)/\Mod wr w0 (aE gl (.cells #[.slice Y I Z] 143 (0,0))*(ar 59 1 (.slice Y I Z) I (et runs)*(G*(kJ AF cF v.k.files*(aE be (.cells #[ap e] 26 (0,0))*(aE bf (.cells #[.string J] 9 (0,0))*(aE bt (.cells #[.string kt] 9 (0,0))*S0))))))))
 case atStart=>exact⟨0,1,U,O,[⟨E,z,lL J v.T⟩],_,Zv _,rfl,rfl,oMg,rfl,rfl,bq.out,Mod.keep m8⟩
 case round =>
  obtain⟨r,I,Z,Y,runs,G,hr,bK,rfl,bM,az,aj,ay,m9⟩:=hrel;clear m8;by_cases aD:r<nf
  ·have aU:(r:Int)<(nf:Int):=oMg
   have au:r<v.k.files.length:=by rw[aT.out];exact aD
   have rF:=kR AF cF v.k.files;obtain⟨b,o,rfl⟩:∃b o,AF=some ⟨b,o,none⟩:=j8 (Mod.pull (m:=m9) (kJ AF cF v.k.files)) (rF.lift zbk) au;obtain⟨k0,k1,k2,k3⟩:=oL rF au;have aK:=Zq au;have hE:=aG.out _ aK;have aF:=zbj (G5 v J kt au);generalize v.k.files[r]=f at *;clear rF au;obtain⟨fn,aa,fl,fm⟩:=f;obtain⟨M,ae⟩:∃n,(v.ent fn).length=n:=⟨_,rfl⟩;have aW:M<=4096:=by rw[<-ae];exact hE
   have aZ:Hid (∀(u:World)(X:ba),Mod u w0 (S0*X)->Calls Tryz.prog 85 #[ap e,.agg #[.int .u32 (fn:Int),.int .i64 aa,.string fl,.string fm]] u fun en w'=>∃E z,en=.returned (.slice E M z)/\M<=z/\Mod w' w0 (ar 71 4 (.slice E M z) M ((v.ent fn).flatMap ao.cells)*(S0*X))):=fun u X mu=>by
    have h1:=bg.out u X ⟨fn,aa,fl,fm⟩ aK mu;simp only[ae]at h1;exact h1
   have aS:=zbj ae;clear ae hE aK;go_upto_region 4 with fail
   obtain⟨gf,aL⟩:∃gf,wr.heap.size=gf:=⟨_,rfl⟩;have m5:Mod (wr.alloc (.cells #[.int .u32 (fn:Int),.int .i64 aa,.string fl,.string fm] 44)) w0 (aE gf (.cells #[.int .u32 (fn:Int),.int .i64 aa,.string fl,.string fm] 44 (0,0))*_):=Mod.alloc (m:=m9) (hn:=⟨aL⟩) _;rw[aL];generalize wr.alloc (.cells #[.int .u32 (fn:Int),.int .i64 aa,.string fl,.string fm] 44)=w5 at *;clear aL m9 k0 k1 k2 k3
   cases aB:(Op.bytesLess fl.toList kt.toList||fl.toList==kt.toList)with
   | false =>
     go_wp2_with fail
     go_roundg (nf-(r+1))
     case measure=>omega
     case rel =>
      have h1:=aF.out;rw[if_neg (show ¬p8 J kt ⟨fn,aa,fl,fm⟩=true by unfold p8;simp only[aB,Bool.false_and];decide)]at h1;exact⟨r+1,I,Z,Y,runs,G,aD,rfl,by go_num,oMg,az.out,by show _=_;rw[h1];exact aj.out,ay.out,Mod.keep m5⟩
   | true =>
    cases aI:Op.bytesLess fm.toList J.toList with
    | true =>
     go_wp2_with fail
     go_roundg (nf-(r+1))
     case measure=>omega
     case rel =>
      have h1:=aF.out;rw[if_neg (show ¬p8 J kt ⟨fn,aa,fl,fm⟩=true by unfold p8;simp only[aB,aI,za7,za6];decide)]at h1;exact⟨r+1,I,Z,Y,runs,G,aD,rfl,by go_num,oMg,az.out,by show _=_;rw[h1];exact aj.out,ay.out,Mod.keep m5⟩
    | false =>
     have aQ:Hid (kV v J kt (v.k.files.take (r+1))=kV v J kt (v.k.files.take r)++[v.ent fn]):=by
      have h1:=aF.out;rw[if_pos (show p8 J kt ⟨fn,aa,fl,fm⟩=true by unfold p8;simp only[aB,aI,za7,Bool.not_false])]at h1;exact h1
     go_wp2_with fail
     clear aB aI;refine eS 6 (fun u=>u.cell? ⟨be,0,none⟩=some (ap e)/\u.cell? ⟨gl,0,none⟩=some (.slice Y I Z)/\u.cell? ⟨gf,0,none⟩=some (.int .u32 (fn:Int))/\u.cell? ⟨gf,1,none⟩=some (.int .i64 aa)/\u.cell? ⟨gf,2,none⟩=some (.string fl)/\u.cell? ⟨gf,3,none⟩=some (.string fm)) kRf (⟨Za,Za,Za,Za,Za,Za⟩) (fun y=>?_);simp only[Zl,List.length_cons,List.length_nil,Nat.reduceAdd];obtain⟨W,hW⟩:∃W,W=w5.drew:=⟨_,rfl⟩;have mW:Mod W w0 _:=hW▸Mod.drew (m:=m5);rw[<-hW]at y ⊢;clear hW m5;refine Tk.go [(0,some 36),(1,some 37),(2,some 38)] ?_
     repeat (
      refine Tk.one (v:=?_) rfl (Or.inl ⟨by rfl,?_⟩) y ?_ (fun _ _ _ h=>h);rotate_left 1
      ·(intro u hu;(try dsimp only at hu);obtain⟨bF,bG,bH,bI,bN,bO⟩:=hu;go_simp;try with_reducible rfl)
      simp only[Act.put,Zb,Zc,Zd])
     refine Tk.stop (sX 3 (some 39) rfl rfl rfl fun K V=>?_);go_simp
     refine(aZ.out _ _ (Mod.pull (m:=mW) S0)).mono ?_;rintro ex w2 ⟨E,z,rfl,bz,m2⟩;clear mW;refine V.out (.slice E M z) _ (⟨Za,Za,Za,Za,Za,Za⟩) (fun y=>?_);clear V K;simp only[Act.put,Zb,Zc,Zd];refine(sX 4 (some 40) rfl rfl rfl fun K V=>?_);refine jN (t:=143) (v:=.slice E M z) rfl rfl rfl ?_;obtain⟨gg,ag⟩:∃x,w2.heap.size=x:=⟨_,rfl⟩;have m3:Mod (w2.alloc (.cells #[.slice E M z] 59)) w0 (aE gg (.cells #[.slice E M z] 59 (0,0))*_):=Mod.alloc (m:=m2) (hn:=⟨ag⟩) _;rw[ag];generalize w2.alloc (.cells #[.slice E M z] 59)=w3 at *;clear ag m2;refine V.out (.slice (some ⟨gg,0,none⟩) 1 1) _ (⟨Za,Za,Za,Za,Za,Za⟩) (fun y=>?_);clear V K;simp only[Act.put,Zb,Zc,Zd];refine(sX 5 (some 41) rfl rfl rfl fun K V=>?_);refine cI (t:=143) rfl (Mod.pull (m:=m3) (ar 59 1 (.slice Y I Z) I (et runs))) (v:=.slice Y I Z) (n:=I) (xs:=et runs) rfl (A:=some ⟨gg,0,none⟩) (k:=1) (c:=1) (news:=[.slice E M z]) rfl (r:=ce rfl rfl) (by simp[Value.oneCell']) (by unfold maxLen;omega) oMg ?_;intro O U w4 m4;clear m3;refine V.out (.slice O (I+1) U) _ (⟨Za,Za,Za,Za,Za,Za⟩) (fun y=>?_);clear V K;simp only[Act.put,Zb,Zc,Zd];refine(Aa none rfl rfl rfl fun K V=>?_);go_simp
     refine V.out undef _ ?_;clear V K y;simp only[Act.put];have m6:Mod (w4.setCell ⟨gl,0,none⟩ (.slice O (I+1) U)) w0 _:=zbk;simp only[Zb,Zc]at m6;generalize w4.setCell ⟨gl,0,none⟩ (.slice O (I+1) U)=w6 at *;clear m4;go_wp2_with fail
     go_roundg (nf-(r+1))
     case measure=>omega
     case rel =>
      refine⟨r+1,I+1,U,O,runs++[⟨E,z,v.ent fn⟩],ar 71 4 (.slice E M z) M ((v.ent fn).flatMap ao.cells)*G,aD,rfl,by go_num,oMg,by show _=_;rw[Ze,az.out];rfl,?_,?_,?_⟩
      ·show _=_
       rw[aQ.out,ZP,aj.out];rfl
      ·have hx:=aS.out
       refine ay.out.more (r:=⟨E,z,v.ent fn⟩) ?_ (by show (v.ent fn).length<=z;omega) (by show (v.ent fn).length≤_;omega);show bp _ E (v.ent fn).length (v.ent fn);rw[hx];exact⟨hx,fh (by decide)⟩
      ·rw[iL _ _ _ _ _ aS.out]
       exact Mod.keep m6
  ·have bD:r=nf:=oMg
   subst bD;have aU:¬(r:Int)<(r:Int):=oMg
   have bE:v.k.files.take r=v.k.files:=Zn (by rw[aT.out];exact Zm _);rw[bE]at aj;go_wp2_with fail
   go_end0
   exact⟨rfl,Y,I,Z,runs,aj.out,az.out,oMg,G,ay.out,by rw[<-bn.out];exact Mod.keep m9⟩
open Go.RowKit Go.Sl Go.Shelf
attribute [local go_sem] ab bj bh bd Oper.semAt_some
def zy (z y:ByteArray)(q:fI):Bool := !Op.bytesLess q.1.toList z.toList&&(Op.bytesLess q.1.toList y.toList||q.1.toList==y.toList)
theorem N4 (I E:ByteArray)(q:fI):zy I E q=(!decide (q.1.toList<I.toList) && !decide (E.toList<q.1.toList)):=by
 unfold zy;simp only[Go.Proofs.bytesLess_eq]
 congr 1
 rw[XI];simp only[Xh,decide_eq_true_eq,beq_iff_eq,Xe,decide_eq_false_iff_not];constructor
 ·rintro(h | h) z
  ·exact eJ _ (lq h z)
  ·rw[h]at z;exact eJ _ z
 ·intro h
  rcases pc q.1.toList E.toList with y | y | y
  ·exact .inl y
  ·exact .inr y
  ·exact absurd y h
abbrev Cv (v:eN)(s:Nat)(y z:ByteArray):List fI:=qG (ij (kV v y z v.k.files).flatten) s
def jp (v:eN)(s:Nat)(y z:ByteArray):List fI:=(Cv v s y z).filter (zy y z)
section
variable {v:eN}{B N n0:Nat}
theorem Mz {α β:Type}{g:α->List β}{a b:List α}(h:a.Sublist b):(a.flatMap g).Sublist (b.flatMap g):=by
 induction h with
 | slnil=>exact Xf _
 | cons x _ y=>rw[Zp];exact y.trans (List.sublist_append_right _ _)
 | cons_cons x _ y=>rw[Zp,Zp];exact(Xf _).append y
theorem Az (v:eN)(y z:ByteArray):((kV v y z v.k.files).flatten).Sublist v.all:=by
 unfold kV eN.all lO;rw[List.flatten_cons,<-List.flatMap_def];refine(ZT (l:=v.T)).append ?_;exact Mz (ZT (l:=v.k.files))
theorem EnCore.NM (h:EnCore v B N n0)(y z:ByteArray):((kV v y z v.k.files).flatten).Pairwise fun a b=>¬eW a b:=h.cont.DN.sublist (Az v y z)
theorem EnCore.EX (h:EnCore v B N n0)(y z:ByteArray):fc (ij (kV v y z v.k.files).flatten):=pR (h.NM y z)
theorem EnCore.Dl (h:EnCore v B N n0)(y z:ByteArray):((kV v y z v.k.files).flatten).length<=N:=Yl (Az v y z).length_le h.many
theorem EnCore.iG (h:EnCore v B N n0){s:Nat}(hs:s∈v.looks)(E I:ByteArray):oZ v.W s E I (jp v s E I):=by
 have Z:=h.ok
 have y:=EW (C:=v.all) (h.EX E I) s E I (fun x J=>(Az v E I).subset ((jk _).mem_iff.1 J)) h.cont.Oc fun x J U V=>by
  refine(jk _).mem_iff.2 ?_;unfold kV;rw[List.flatten_cons];rcases ZA.1 J with J | J
  ·exact ZN _ ((Js h.okT E x).2 ⟨J,U⟩)
  ·unfold lO at J
   obtain⟨f,Y,O⟩:=YP.1 J;refine Ym _ (Y1.2 ⟨v.ent f.num,Zz.2 ⟨f,ZB.2 ⟨Y,?_⟩,rfl⟩,O⟩);have K:=h.disk.each f Y;have M:=F5 K.here.ok O;rw[<-K.least,<-K.most]at M;unfold p8;simp only[Go.Proofs.bytesLess_eq,Yg,Xh,decide_eq_true_eq,beq_iff_eq,Xe,decide_eq_false_iff_not];constructor
   ·rcases pc f.least.toList I.toList with y | y | y
    ·exact .inl y
    ·exact .inr y
    ·exfalso
     rcases pc x.key.toList f.least.toList with z | z | z
     ·exact M.1 z
     ·rw[z]at V;exact V y
     ·exact V (lq y z)
   ·intro y
    rcases pc x.key.toList f.most.toList with z | z | z
    ·exact U (lq z y)
    ·rw[z]at U;exact U y
    ·exact M.2 z
 have e:jp v s E I=(Cv v s E I).filter fun q => !decide (q.1.toList<E.toList) && !decide (I.toList<q.1.toList):=by
  unfold jp;exact Y4 fun q _=>N4 E I q
 rw[e];exact oZ.conv y (h.cont.nh s hs)
end
theorem Aw (l:List ao)(s:Nat):(qG l s).length<=l.length:=by
 have E:∀r:List ao,(kA s r).length<=r.length:=fun r=>by
  unfold kA
  cases I:r.find? (fun x=>decide (x.seq<=s))with
  | none=>simp
  | some x =>
    have y:=List.length_pos_of_mem (YA I);simp only
    split <;> simp <;> omega
 have y:∀rs:List (List ao),(rs.flatMap (kA s)).length<=rs.flatten.length:=by
  intro rs
  induction rs with
  | nil=>simp
  | cons r rs J =>
    have:=E r;rw[Zp,List.flatten_cons,Ze,Ze];omega
 have z:=y (gE l);rw[kN]at z;exact z
abbrev fT (z E J I e p V y K t M:Nat)(A:Option Addr)(c:Nat)(v:eN)(s:Nat)(O U:ByteArray)(F:ba):ba :=
 aE z (.cells #[ap e] 26 (0,0))*(aE E (.cells #[.string O] 9 (0,0))*(aE J (.cells #[.string U] 9 (0,0))*(aE I (.cells #[.int .u64 (s:Int)] 29 (0,0))*o6 e p V y K t M A c v F)))
def GV (x:fI):Array Value:=#[.agg #[.string x.1,.string x.2]]
theorem xt (O U V Y e p mp I ej t hm:Nat)(A:Option Addr)(c:Nat)(v:eN)(B N n0:Nat)(s:Nat)(z y:ByteArray)(hr:cv v B N n0)(bH:n0<=100)(hN:N<=100000)(hs:s<18446744073709551616)(w0:World)(F:ba)(tab:fX F) :
 Du Tryz.prog w0 83 #[ap O,ap U,ap V,ap Y] GV (fun _=>True) (fT O U V Y e p mp I ej t hm A c v s z y F) (fun _=>fT O U V Y e p mp I ej t hm A c v s z y F) (fun xs=>xs=jp v s z y) (fun pre=>∃rest,jp v s z y=pre++rest) (fun pre x _=>∃rest,jp v s z y=pre++x::rest):=by
 intro yl J Jx W _ aZ m;show Calls Tryz.prog 83 #[.func (.yield yl) #[] #[],ap O,ap U,ap V,ap Y] W _;have HC:=zbj hr;have aV:=zbj tab;have bE:=zbj aZ;clear hr tab aZ;go_enter Tryz.func83,Tryz.ntmps83
 go_upto_region 1 with fail
 obtain⟨gl,aM⟩:∃x,W.heap.size=x:=⟨_,rfl⟩;have m1:Mod (W.alloc (.cells #[.slice none 0 0] 143)) w0 (aE gl (.cells #[.slice none 0 0] 143 (0,0))*_):=Mod.alloc (m:=m) (hn:=⟨aM⟩) _;rw[aM];generalize W.alloc (.cells #[.slice none 0 0] 143)=w1 at *;clear aM m;have m2:Mod w1 w0 (aE gl (.cells #[.slice none 0 0] 143 (0,0))*(aE O (.cells #[ap e] 26 (0,0))*(aE U (.cells #[.string z] 9 (0,0))*(aE V (.cells #[.string y] 9 (0,0))*o6 e p mp I ej t hm A c v (aE Y (.cells #[.int .u64 (s:Int)] 29 (0,0))*(J []*F)))))):=Mod.keep m1;clear m1
 have aW:=zbj (r8 (α:=Option Addr×Nat×Nat×List cQ×ba) 84 #[ap gl,ap O,ap U,ap V] (fun a=>Hid (a.2.2.2.1.map (·.l)=kV v z y v.k.files)/\a.2.2.2.1.length=a.2.1/\a.2.1<=200/\Hid (jb a.2.2.2.2 a.2.2.2.1)) (fun a=>aE gl (.cells #[.slice a.1 a.2.1 a.2.2.1] 143 (0,0))*(ar 59 1 (.slice a.1 a.2.1 a.2.2.1) a.2.1 (et a.2.2.2.1)*(a.2.2.2.2*(aE O (.cells #[ap e] 26 (0,0))*(aE U (.cells #[.string z] 9 (0,0))*(aE V (.cells #[.string y] 9 (0,0))*o6 e p mp I ej t hm A c v (aE Y (.cells #[.int .u64 (s:Int)] 29 (0,0))*(J []*F)))))))) w1 w0 _ m2 (enters_of Tryz.func84 kRf rfl) (fun G u mu=>by
  refine(Bi e p gl O U V mp I ej t hm A c v B N n0 z y HC.out bH u w0 ((aE Y (.cells #[.int .u64 (s:Int)] 29 (0,0))*(J []*F))*G) (Mod.keep mu) (aV.out.lift zbk)).mono ?_;rintro en w' ⟨rfl,Al,nl,cl,runs,h1,h2,h3,G1,h4,m3⟩
  exact⟨rfl,(Al,nl,cl,runs,G1),⟨h1,h2,h3,h4⟩,Mod.keep m3⟩))
 go_wp2_with (go_at_call 28;refine aW.out.mono ?_;rintro ex w3 ⟨rfl,⟨Al,nl,cl,runs,G1⟩,⟨ai,bI,bu,ay⟩,m3⟩;refine Hid.out ?_)
 refine zbj ?_;clear m2 aW;have m4:Mod w3 w0 (aE gl (.cells #[.slice Al nl cl] 143 (0,0))*(ar 59 1 (.slice Al nl cl) nl (et runs)*(G1*(aE O (.cells #[ap e] 26 (0,0))*(aE U (.cells #[.string z] 9 (0,0))*(aE V (.cells #[.string y] 9 (0,0))*o6 e p mp I ej t hm A c v (aE Y (.cells #[.int .u64 (s:Int)] 29 (0,0))*(J []*F)))))))):=m3;have ai:Hid (runs.map (·.l)=kV v z y v.k.files):=ai;have ay:Hid (jb G1 runs):=ay;have bu:nl<=200:=bu;clear m3 bI;have hE:km runs=(kV v z y v.k.files).flatten:=by rw[<-ai.out];unfold km;rw[List.flatMap_def]
 have aj:=HC.out.toEnCore.NM z y;have av:=HC.out.toEnCore.Dl z y
 have ae:∀r∈runs,fc r.l:=fun r hr=>by
  have h1:r.l∈runs.map (·.l):=ZC hr;rw[ai.out]at h1;unfold kV at h1;rcases Zu.1 h1 with e | h1
  ·rw[e];exact HC.out.rise.sublist ZT
  ·obtain⟨f,hf,e⟩:=Zz.1 h1
   rw[<-e];exact(HC.out.disk.each f (ZB.1 hf).1).here.ok.rise
 have ag:=zbj (vN Al nl cl runs oMg ae (by rw[hE];exact aj) (by rw[hE];omega) w3 w0 _ m4 zbk (ay.out.lift zbk));rw[hE]at ag;obtain⟨all,Z⟩:∃a,(kV v z y v.k.files).flatten=a:=⟨_,rfl⟩;have aa:fc (ij all):=by rw[<-Z];exact HC.out.toEnCore.EX z y
 have ax:qG (ij all) s=Cv v s z y:=by rw[<-Z]
 rw[Z]at ag av;obtain⟨NA,aJ⟩:∃n,all.length=n:=⟨_,rfl⟩;rw[aJ]at ag av;have bg:(ij all).length=NA:=by rw[(jk _).length_eq];exact aJ
 have aU:=zbj bg;have aR:=zbj aa;obtain⟨rows,af⟩:∃r,qG (ij all) s=r:=⟨_,rfl⟩;have bF:=zbj af;have aS:Hid (jp v s z y=rows.filter (zy z y)):=by show _=_;unfold jp;rw[<-ax,af]
 obtain⟨E,aO⟩:∃n,rows.length=n:=⟨_,rfl⟩;have az:=zbj aO;have bL:E<=100000:=by rw[<-aO,<-af];have:=Aw (ij all) s;omega
 clear hE aj ae Z aa ax aJ bg af aO ai;go_wp2_with (go_at_call 86;refine ag.out.mono ?_;rintro ex w5 ⟨BM,cM,rfl,m5⟩;refine Hid.out ?_)
 refine zbj ?_;have bG:NA<=cM:=i7 m5;have m6:Mod w5 w0 (ar 71 4 (.slice BM NA cM) NA ((ij all).flatMap ao.cells)*(J []*(fT O U V Y e p mp I ej t hm A c v s z y F))):=Mod.keep m5;clear m4 m5 ag ay;have bz:bp (ar 71 4 (.slice BM NA cM) NA ((ij all).flatMap ao.cells)) BM NA (ij all):=⟨aU.out,fh (by decide)⟩
 have aT:Hid (∀(u:World),Mod u w0 (ar 71 4 (.slice BM NA cM) NA ((ij all).flatMap ao.cells)*(J []*(fT O U V Y e p mp I ej t hm A c v s z y F)))->Calls Tryz.prog 87 #[.slice BM NA cM,.int .u64 (s:Int)] u fun en w'=>∃BR cR,en=.returned (.tuple #[.slice BR E cR,.int .i64 0])/\Mod w' w0 (ar 84 2 (.slice BR E cR) E (da rows)*(ar 71 4 (.slice BM NA cM) NA ((ij all).flatMap ao.cells)*(J []*(fT O U V Y e p mp I ej t hm A c v s z y F))))):=fun u mu=>by
  have h1:=GD BM NA cM s (ij all) oMg bG hs aR.out u w0 _ mu (bz.lift zbk);rw[bF.out,az.out]at h1;exact h1
 go_wp2_with (go_at_call 87;refine(aT.out _ m6).mono ?_;rintro ex w7 ⟨BR,cR,rfl,m7⟩;refine Hid.out ?_)
 refine zbj ?_;clear m6 aT bz aR aU
 have m8:Mod w7 w0 (J ((rows.take 0).filter (zy z y))*(ar 84 2 (.slice BR E cR) E (da rows)*(fT O U V Y e p mp I ej t hm A c v s z y F))):=by
  have e0:(rows.take 0).filter (zy z y)=[]:=rfl;rw[e0];exact Mod.keep m7
 clear m7;go_wp2_with fail
 go_loopg [39] E (fun gk bK wr=>∃i:Nat,i<=E/\gk=E-i/\bK=.int .i64 (i:Int)/\Mod wr w0 (J ((rows.take i).filter (zy z y))*(ar 84 2 (.slice BR E cR) E (da rows)*(fT O U V Y e p mp I ej t hm A c v s z y F))))
 case atStart=>exact⟨0,Zv _,rfl,rfl,m8⟩
 case round =>
  obtain⟨i,hi,bM,rfl,m9⟩:=hrel;clear m8;by_cases aD:i<E
  ·have bq:(i:Int)<(E:Int):=oMg
   have ak:i<rows.length:=by rw[az.out];exact aD
   have rR:jS (fun q:fI=>[Value.string q.1,Value.string q.2]) 2 (ar 84 2 (.slice BR E cR) E (da rows)) BR E rows:=⟨az.out,fh (by decide)⟩;obtain⟨b,o,rfl⟩:=jS.some_ (rR.lift (S':=ar 84 2 (.slice BR E cR) E (da rows)*_) zbk) (Mod.pull (m:=m9) (ar 84 2 (.slice BR E cR) E (da rows))) (by decide) oMg;have k0:=rR.at_ (fun _=>rfl) (by decide) ak (j:=0) rfl;have k1:=rR.at_ (fun _=>rfl) (by decide) ak (j:=1) rfl;have aI:Hid (rows.take (i+1)=rows.take i++[rows[i]]):=Zx ak;have bC:Hid (rows=rows.take i++rows[i]::rows.drop (i+1)):=by show _=_;rw[<-Ya ak,YT]
   generalize rows[i]=q at *;clear rR ak;obtain⟨M,qv⟩:=q;simp only[Nat.add_zero]at k0;have k0:bw (ar 84 2 (.slice (some ⟨b,o,none⟩) E cR) E (da rows)) b (o+i*2) (.string M):=k0;have k1:bw (ar 84 2 (.slice (some ⟨b,o,none⟩) E cR) E (da rows)) b (o+i*2+1) (.string qv):=k1;go_upto_region 8 with fail
   obtain⟨gq,aN⟩:∃x,wr.heap.size=x:=⟨_,rfl⟩;have aF:Mod (wr.alloc (.cells #[.string M,.string qv] 84)) w0 (aE gq (.cells #[.string M,.string qv] 84 (0,0))*_):=Mod.alloc (m:=m9) (hn:=⟨aN⟩) _;rw[aN];generalize wr.alloc (.cells #[.string M,.string qv] 84)=aG at *;clear aN m9 k0 k1
   cases aL:Op.bytesLess M.toList z.toList with
   | true =>
     have K:zy z y (M,qv)=false:=by unfold zy;simp only[aL,za6,Bool.false_and]
     have ah:Hid ((rows.take (i+1)).filter (zy z y)=(rows.take i).filter (zy z y)):=by show _=_;rw[aI.out,Yp,ZQ (by rw[K];decide),List.filter_nil,ZH]
     clear K;go_wp2_with fail
     go_roundg (E-(i+1))
     case measure=>omega
     case rel=>exact⟨i+1,aD,rfl,by go_num,by rw[ah.out];exact Mod.keep aF⟩
   | false =>
     cases bn:(Op.bytesLess M.toList y.toList||M.toList==y.toList)with
     | false =>
       have K:zy z y (M,qv)=false:=by unfold zy;simp only[aL,bn,Bool.and_false]
       have ah:Hid ((rows.take (i+1)).filter (zy z y)=(rows.take i).filter (zy z y)):=by show _=_;rw[aI.out,Yp,ZQ (by rw[K];decide),List.filter_nil,ZH]
       clear K;go_wp2_with fail
       go_roundg (E-(i+1))
       case measure=>omega
       case rel=>exact⟨i+1,aD,rfl,by go_num,by rw[ah.out];exact Mod.keep aF⟩
     | true =>
       have au:zy z y (M,qv)=true:=by unfold zy;simp only[aL,bn];rfl
       have aX:Hid ((rows.take (i+1)).filter (zy z y)=(rows.take i).filter (zy z y)++[(M,qv)]):=by show _=_;rw[aI.out,Yp,ZZ au,List.filter_nil]
       have aK:∃rest,jp v s z y=(rows.take i).filter (zy z y)++(M,qv)::rest:=by
        refine⟨(rows.drop (i+1)).filter (zy z y),?_⟩;rw[aS.out]
        conv=>lhs;rw[bC.out]
        rw[Yp,ZZ au]
       have bD:=zbj aK;have bB:Mod aG w0 (J ((rows.take i).filter (zy z y))*(aE gq (.cells #[.string M,.string qv] 84 (0,0))*(ar 84 2 (.slice (some ⟨b,o,none⟩) E cR) E (da rows)*(fT O U V Y e p mp I ej t hm A c v s z y F)))):=Mod.keep aF;obtain⟨fn,tmps,aB,aY,hy,aH⟩:=bE.out _ (M,qv) _ aG aK bB;have hy:(Instr.yield yl #[.agg #[.string M,.string qv]]).run Tryz.prog aG=.ok (.round yl fn tmps aB aY) aG:=hy;clear au aK bB;refine(wpIn_wide (n:=6)).1 ?_
       gi_wp2
       refine aH.mono ?_;rintro en W3 (⟨rfl,aQ⟩ | ⟨rfl,aQ⟩)
       ·gi_wp2
        clear aH hy aF;go_wp2_with fail
        go_roundg (E-(i+1))
        case measure=>omega
        case rel=>exact⟨i+1,aD,rfl,by go_num,by rw[aX.out];exact Mod.keep aQ⟩
       ·gi_wp2
        go_wp2
        refine bodyPost_ret (results_none rfl _ _ _) rfl ?_;obtain⟨rest,aP⟩:=bD.out;exact⟨⟨_,rfl⟩,.inr ⟨(rows.take i).filter (zy z y)++[(M,qv)],⟨rest,by rw[aP];simp⟩,Mod.keep aQ⟩⟩
  ·have au:i=E:=oMg
   subst au;have bq:¬(i:Int)<(i:Int):=oMg
   have bJ:rows.take i=rows:=Zn (by rw[az.out];exact Zm _);rw[bJ,<-aS.out]at m9;go_wp2_with fail
   go_end0
   exact⟨⟨_,rfl⟩,.inl (Mod.keep m9)⟩
end Go.Proofs.YtdfppjcaelghhaaGreatDoor
