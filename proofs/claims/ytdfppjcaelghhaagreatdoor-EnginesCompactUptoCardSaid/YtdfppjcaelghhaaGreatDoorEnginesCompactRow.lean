/- The row, as given. -/
import Derived.JoinedCond
import Derived.SevenTiedAt
import Derived.Test.YtdfppjcaelghhaaGreatDoorCards
import Derived.Test.YtdfppjcaelghhaaGreatDoorEnginesCompactWalk
import Derived.Test.YtdfppjcaelghhaaGreatDoorTie
set_option maxRecDepth 100000
set_option maxHeartbeats 4000000
namespace Go.Proofs.YtdfppjcaelghhaaGreatDoor
open Go.ChangeShapes Go.WideShapes Go.ChangeAt Go.RowKit Go.Sl
theorem Pv (os:Os)(H:Type)(enc:TypeId×Value->H):(DataW.whole enc Tryz.prog (((World.laidAll Tryz.prog os Rows.enginesCompactUptoRow.laid).forCall (fun _ _=>0) ⟨#[],#[.slice none 0 0,.slice none 0 0,.bool false],[]⟩).memory) Tryz.f4.params.toList (Rows.OpenSpec.upto Rows.enginesCompactSpec).vars false #[(.slice none 0 0:Value),.slice none 0 0,.bool false].toList 8).map (fun x=>(x.1,x.2.1))=some ([.nil,.nil,.lit (.bool false)],[]):=by kernel_rfl
theorem Px (os:Os)(H:Type)(enc:TypeId×Value->H):(Rows.OpenSpec.upto Rows.enginesCompactSpec).preRow enc Tryz.prog Tryz.f4 Rows.enginesCompactUptoRow.domain false Rows.enginesCompactUptoRow.laid (((World.laidAll Tryz.prog os Rows.enginesCompactUptoRow.laid).forCall (fun _ _=>0) ⟨#[],#[.slice none 0 0,.slice none 0 0,.bool false],[]⟩).memory) #[.slice none 0 0,.slice none 0 0,.bool false]:=by
 obtain⟨⟨E,I,J⟩,B,y⟩:=Xk.1 (Pv os H enc);simp only[Prod.mk.injEq]at y;obtain⟨rfl,rfl⟩:=y;exact OpenSpec.preRow_of_cond 8 B kRf (fun k z=>by cases z;kernel_rfl) kRf (by rw[MakeChecks.laidMetH_plain _ _ _ kRf];exact laidMet_laidAll _ kRf kRf)
theorem Pp (H:Type)(enc:TypeId×Value->H)(W:World)(base:Nat)(args:Array Value)(ds gs:List (DataW H))(I:List MemPlace)
 (z:∀(j:Nat) t v,Tryz.f4.params[j]?=some t->args[j]?=some v->Value.okWide Tryz.prog W .any base t v)
 (hW:DataW.Whole enc Tryz.prog Tryz.f4.params.toList Rows.enginesCompactSpec.vars false W args.toList ds gs I) (hk:Rows.uptoSmall H (ds++gs)=true) (Y:laidMetH Tryz.prog Rows.enginesCompactUptoRow.laid W) :
 Calls Tryz.prog 4 args W fun e W'=>∃v,e=.returned v/\Rows.enginesCompactSpec.post enc Tryz.prog Tryz.f4 false true false false W args v W':=by
 have y:∀(j:Nat) t v,Tryz.f4.params[j]?=some t->args[j]?=some v->Value.okWide Tryz.prog W .any base t v:=z;have aa:=hW;obtain⟨p,q,V,hV,rfl,_,_⟩:=hW;have hA:DataW.TrodAll enc Tryz.prog W 0 (fun _=>true) true Tryz.f4.params.toList args.toList ds p:=V;rw[Tryz.params4]at hA y;obtain⟨v0,ak,d0,ah,p0,q0,ae,rfl,rfl,h0,r0⟩:=trodAll_cons hA;obtain⟨v1,au,d1,ai,p1,q1,rfl,rfl,rfl,h1,r1⟩:=trodAll_cons r0;obtain⟨v2,av,d2,aj,p2,q2,rfl,rfl,rfl,h2,r2⟩:=trodAll_cons r1;obtain⟨rfl,rfl,rfl⟩:=trodAll_nil r2;obtain rfl:args=#[v0,v1,v2]:=by cases args;simp_all
 obtain⟨rfl,rfl⟩:=trodVars_none hV;have hb:=of_decide_eq_true hk;simp only[ZH,Rows.uptoBulkAll]at hb;obtain⟨a0,B,O,rfl⟩:=okWide_slice Tryz.underlying22 (y 0 22 v0 rfl rfl);have k0:=h0;have af:∀x∈p0,x.block<W.heap.size:=by obtain⟨m,X⟩:=k0;exact DataW.trod_lt m _ _ _ X
 obtain⟨a1,E,U,rfl⟩:=okWide_slice Tryz.underlying22 (y 1 22 v1 rfl rfl);have k1:=h1;have ag:∀x∈p1,x.block<W.heap.size:=by obtain⟨m,X⟩:=k1;exact DataW.trod_lt m _ _ _ X
 obtain⟨a2,rfl,rfl,rfl⟩:=open_bool Tryz.underlying4 (y 2 4 v2 rfl rfl) h2;have K:∃ls,ll (vG (hp W)) a0 B ls/\B<=1048576:=yL k0 oMg;have M:∃ls,ll (vG (hp W)) a1 E ls/\E<=1048576:=yL k1 oMg;rw[MakeChecks.laidMetH_plain _ _ _ kRf]at Y;have tab:fX (vG (hp W)):=Fa Y;have Z:qf (vG (hp W)):=DL Y;clear V z hk Y;have m:=Mod.start W;refine(PB a0 B O a1 E U a2 W W _ m K.choose K.choose_spec.1 K.choose_spec.2 M.choose M.choose_spec.1 M.choose_spec.2 tab Z).mono fun e W' ⟨he,X⟩=>?_;have J:=CL X;subst he;exact⟨_,rfl,_,_,_,[],_,[],aa,trodAll_mk1 (shut_bool Tryz.underlying4 _),(trodAll_cons_mk (Below.trod zO kRf (of_decide_eq_true kRf) k0 J af) (trodAll_cons_mk (Below.trod zO kRf (of_decide_eq_true kRf) k1 J ag) (trodAll_cons_mk (shut_bool Tryz.underlying4 _) trodAll_mk0))),rfl,J.frame _,fun h=>by cases h⟩
theorem Pq (os:Os)(y:os.Started)(H:Type)(enc:TypeId×Value->H)(F:Stop.Interp) :
 ReturnsInHanded {} Tryz.checked os 4 .any ((Rows.OpenSpec.upto Rows.enginesCompactSpec).preRow enc Tryz.prog Tryz.f4 Rows.enginesCompactUptoRow.domain false Rows.enginesCompactUptoRow.laid) (((Rows.OpenSpec.upto Rows.enginesCompactSpec).at F).post enc Tryz.prog Tryz.f4 false true false false):=by
 refine returnsInHanded_of_row (C:=Tryz.checked) (s:=Rows.OpenSpec.upto Rows.enginesCompactSpec) Mg y kRf Tryz.func4
  (Fo (enc:=enc) (C:=Tryz.checked) false (World.laidAll Tryz.prog os Rows.enginesCompactUptoRow.laid) #[.slice none 0 0,.slice none 0 0,.bool false] (World.laidAll_os _ _ _) (World.shaped_of_ZipB kRf kRf) kRf (Px os H enc)) ?_
 intro W base args I J z E M _ B _ K _ _;exact Pp H enc W base args I J z E M (B _ rfl) K
theorem PC:Rows.EnginesCompactUptoSaid :=
 OpenClaim.holds_of_cond 4 Tryz.f4 rfl rfl rfl rfl rfl rfl rfl ⟨rfl,rfl,rfl,rfl,rfl⟩ rfl rfl rfl rfl rfl kRf Tryz.func4
  (Lp kRf kRf kRf kRf kRf (by as_aux_lemma=>kernel_rfl) (by as_aux_lemma=>kernel_rfl) (by as_aux_lemma=>kernel_rfl) (by as_aux_lemma=>kernel_rfl) kRf kRf kRf kRf kRf kRf kRf kRf kRf kRf kRf kRf kRf kRf kRf kRf kRf)
  (of_decide_eq_true kRf) (by unfold Func.isWrapper;first | (rw[if_pos (by decide +kernel)];kernel_rfl) | (rw[if_neg (by decide +kernel)];exact⟨rfl,rfl⟩))
  (fun os y H enc _ F=>by rw[OpenClaim.pre_eq_preRow];exact Pq os y H enc F)
end Go.Proofs.YtdfppjcaelghhaaGreatDoor
