/- EnginesWhole answers true at every input and leaves its arguments as they were: the row, as given, with no condition of its own. -/
import Derived.SevenTiedAt
import Derived.Test.YtdfppjcaelghhaaGreatDoorCards
import Derived.Test.YtdfppjcaelghhaaGreatDoorEnginesWholeWalk
import Derived.Test.YtdfppjcaelghhaaGreatDoorTie
set_option maxRecDepth 100000
set_option maxHeartbeats 4000000
namespace Go.Proofs.YtdfppjcaelghhaaGreatDoor
open Go.ChangeShapes Go.WideShapes Go.ChangeAt Go.RowKit Go.Sl
open Go.ChangeMaps (open_string shut_string)
theorem gW (os:Os)(J:os.Started)(H:Type)(enc:TypeId×Value->H) :
 ReturnsInHanded {} Tryz.checked os 5 .any (fun w args=>(Rows.enginesWholeSpec.pre enc Tryz.prog Tryz.f5 Rows.enginesWholeRow.domain false w args/\laidMetH Tryz.prog Rows.enginesWholeRow.laid w)/\sizedMet enc Tryz.prog Tryz.f5 (OpenSpec.ofChange Rows.enginesWholeSpec) false w args)
  (Rows.enginesWholeSpec.post enc Tryz.prog Tryz.f5 false true false false):=by
 refine returnsInHanded_of_change_and (C:=Tryz.checked) (X:=fun w _=>laidMetH Tryz.prog Rows.enginesWholeRow.laid w) (fun _ _ _ hh h=>h.of_heap hh) Mg J kRf Tryz.func5
  (ChangeSpec.witness_shaped (enc:=enc) (C:=Tryz.checked) (os:=os) (X:=fun w _=>laidMetH Tryz.prog Rows.enginesWholeRow.laid w) false (World.laidAll Tryz.prog os Rows.enginesWholeRow.laid) #[.slice none 0 0,.int .u16 0,.bool false] 8 (World.laidAll_os _ _ _)
    (World.shaped_of_ZipB kRf kRf) kRf kRf kRf
    (by rw[MakeChecks.laidMetH_plain _ _ _ kRf];exact laidMet_laidAll _ kRf kRf)) ?_
 intro W base args ds gs O I hW hc au U af;clear hc af;have z:∀(j:Nat) t v,Tryz.f5.params[j]?=some t->args[j]?=some v->Value.okWide Tryz.prog W .any base t v:=I;have aa:=hW;obtain⟨p,q,M,hV,rfl,_,_⟩:=hW;have hA:DataW.TrodAll enc Tryz.prog W 0 (fun _=>true) true Tryz.f5.params.toList args.toList ds p:=M;rw[Tryz.params5]at hA z;obtain⟨v0,av,d0,ai,p0,q0,ae,rfl,rfl,h0,r0⟩:=trodAll_cons hA;obtain⟨v1,ax,d1,aj,p1,q1,rfl,rfl,rfl,Z,r1⟩:=trodAll_cons r0;obtain⟨v2,ay,d2,ak,p2,q2,rfl,rfl,rfl,h2,r2⟩:=trodAll_cons r1;obtain⟨rfl,rfl,rfl⟩:=trodAll_nil r2;obtain rfl:args=#[v0,v1,v2]:=by cases args;simp_all
 obtain⟨rfl,rfl⟩:=trodVars_none hV;obtain⟨V,B,E,rfl⟩:=okWide_slice Tryz.underlying23 (z 0 23 v0 rfl rfl);have k0:=h0;have ag:∀x∈p0,x.block<W.heap.size:=by obtain⟨m,hm⟩:=k0;exact DataW.trod_lt m _ _ _ hm
 obtain⟨a1,rfl,rfl,rfl,w1⟩:=open_int Tryz.underlying46 (z 1 46 v1 rfl rfl) Z;obtain⟨a2,rfl,rfl,rfl⟩:=open_bool Tryz.underlying4 (z 2 4 v2 rfl rfl) h2
 have rd:∃l,ia (vG (hp W)) V B l/\B<=E:=by
  obtain⟨ah,hf⟩:=k0;obtain⟨y,hy,Z,h2,_⟩:=I3 (v:=.slice V B E) hf;injection hy with e1 e2 e3;subst e1 e2 e3;exact⟨y.l,Z,h2⟩
 rw[MakeChecks.laidMetH_plain _ _ _ kRf]at U;have tab:fX (vG (hp W)):=Fa U;have Y:qf (vG (hp W)):=DL U;clear M I U;have _m:=Mod.start W;refine(iA V B E a1 a2 W W _ _m w1 rd.choose rd.choose_spec.1 rd.choose_spec.2 tab Y).mono fun e W' ⟨he,hm⟩=>?_;have K:=CL hm;subst he;exact⟨_,rfl,_,_,_,[],_,[],aa,trodAll_mk1 (shut_bool Tryz.underlying4 _),(trodAll_cons_mk (Below.trod zO kRf (of_decide_eq_true kRf) k0 K ag) (trodAll_cons_mk (shut_int Tryz.underlying46 w1) (trodAll_cons_mk (shut_bool Tryz.underlying4 _) trodAll_mk0))),rfl,K.frame _,fun h=>by cases h⟩
theorem iI:Rows.EnginesWholeSaid :=
 OpenClaim.holds_of_wide 5 Tryz.f5 rfl rfl rfl rfl rfl rfl rfl ⟨rfl,rfl,rfl,rfl,rfl⟩ rfl rfl rfl rfl rfl kRf Tryz.func5
  (Lp kRf kRf kRf kRf kRf (by as_aux_lemma=>kernel_rfl) (by as_aux_lemma=>kernel_rfl) (by as_aux_lemma=>kernel_rfl) (by as_aux_lemma=>kernel_rfl) kRf kRf kRf kRf kRf kRf kRf kRf kRf kRf kRf kRf kRf kRf kRf kRf kRf)
  (of_decide_eq_true kRf) (by unfold Func.isWrapper;first | (rw[if_pos (by decide +kernel)];kernel_rfl) | (rw[if_neg (by decide +kernel)];exact⟨rfl,rfl⟩))
  (fun os y H enc _=>gW os y H enc)
end Go.Proofs.YtdfppjcaelghhaaGreatDoor
