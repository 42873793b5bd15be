/- ManifestsUndo answers true at every input of the second form's bulk and leaves its arguments as they were: the row, as given; the condition is the row's. -/
import Derived.Test.YtmhlebpchllpbaaGreatDoorTie
import Derived.Test.YtmhlebpchllpbaaGreatDoorCards
import Derived.Test.YtmhlebpchllpbaaGreatDoorFacts
import Derived.Test.YtmhlebpchllpbaaGreatDoorMfFG
import Derived.Test.YtmhlebpchllpbaaGreatDoorManifestsUndoWalk
import Derived.ProofKit
import Derived.OpenShut
import Derived.SevenTiedAt
import Derived.JoinedCond
namespace Go.Proofs.YtmhlebpchllpbaaGreatDoor
open Go.ChangeShapes Go.WideShapes Go.ChangeAt Go.RowKit Go.Sl
theorem manifestsUndo_reads (os : Os) (H : Type) (enc : TypeId × Value → H) : (DataW.whole enc Tryz.prog (((World.laidAll Tryz.prog os Rows.manifestsUndoUptoRow.laid).forCall (fun _ _ => 0) ⟨#[], #[.slice none 0 0, .agg #[.int .u32 0, .int .i64 0, .string ⟨#[]⟩, .string ⟨#[]⟩]], []⟩).memory) Tryz.f4.params.toList (Rows.OpenSpec.upto Rows.manifestsUndoSpec).vars false #[(.slice none 0 0 : Value), .agg #[.int .u32 0, .int .i64 0, .string ⟨#[]⟩, .string ⟨#[]⟩]].toList 8).map (fun x => (x.1, x.2.1)) = some ([.nil, .agg [.lit (.int .u32 0), .lit (.int .i64 0), .lit (.string []), .lit (.string [])]], []) := by kernel_rfl
theorem manifestsUndo_there (os : Os) (H : Type) (enc : TypeId × Value → H) : (Rows.OpenSpec.upto Rows.manifestsUndoSpec).preRow enc Tryz.prog Tryz.f4 Rows.manifestsUndoUptoRow.domain false Rows.manifestsUndoUptoRow.laid (((World.laidAll Tryz.prog os Rows.manifestsUndoUptoRow.laid).forCall (fun _ _ => 0) ⟨#[], #[.slice none 0 0, .agg #[.int .u32 0, .int .i64 0, .string ⟨#[]⟩, .string ⟨#[]⟩]], []⟩).memory) #[.slice none 0 0, .agg #[.int .u32 0, .int .i64 0, .string ⟨#[]⟩, .string ⟨#[]⟩]] := by
  obtain ⟨⟨x1, x2, x3⟩, hx, hx1⟩ := Option.map_eq_some_iff.1 (manifestsUndo_reads os H enc)
  simp only [Prod.mk.injEq] at hx1
  obtain ⟨rfl, rfl⟩ := hx1
  exact OpenSpec.preRow_of_cond 8 hx (by kernel_rfl) (fun k hk => by cases hk; kernel_rfl) (by kernel_rfl) (by rw [MakeChecks.laidMetH_plain _ _ _ (by kernel_rfl)]; exact laidMet_laidAll _ (by kernel_rfl) (by kernel_rfl))
set_option maxRecDepth 100000 in
theorem manifestsUndo_contract (H : Type) (enc : TypeId × Value → H) (W : World) (base : Nat) (args : Array Value) (ds gs : List (DataW H)) (before : List MemPlace)
    (hval0 : ∀ (j : Nat) t v, Tryz.f4.params[j]? = some t → args[j]? = some v → Value.okWide Tryz.prog W .any base t v)
    (hW : DataW.Whole enc Tryz.prog Tryz.f4.params.toList Rows.manifestsUndoSpec.vars false W args.toList ds gs before) (hk : Rows.uptoSmall H (ds ++ gs) = true) (hL : laidMetH Tryz.prog Rows.manifestsUndoUptoRow.laid W) :
    Calls Tryz.prog 4 args W fun e W' => ∃ v, e = .returned v ∧ Rows.manifestsUndoSpec.post enc Tryz.prog Tryz.f4 false true false false W args v W' := by
  have hval : ∀ (j : Nat) t v, Tryz.f4.params[j]? = some t → args[j]? = some v → Value.okWide Tryz.prog W .any base t v := hval0
  have hW' := hW
  obtain ⟨p, q, hA0, hV, rfl, _, _⟩ := hW
  have hA : DataW.TrodAll enc Tryz.prog W 0 (fun _ => true) true Tryz.f4.params.toList args.toList ds p := hA0
  rw [Tryz.params4] at hA hval
  obtain ⟨v0, vs0, d0, ds0, p0, q0, hargs, rfl, rfl, h0, r0⟩ := trodAll_cons hA
  obtain ⟨v1, vs1, d1, ds1, p1, q1, rfl, rfl, rfl, h1, r1⟩ := trodAll_cons r0
  obtain ⟨rfl, rfl, rfl⟩ := trodAll_nil r1
  obtain rfl : args = #[v0, v1] := by cases args; simp_all
  obtain ⟨rfl, rfl⟩ := trodVars_none hV
  have hb := of_decide_eq_true hk
  simp only [List.append_nil, Rows.uptoBulkAll] at hb
  obtain ⟨a0, len0, cap0, rfl⟩ := okWide_slice Tryz.underlying23 (hval 0 23 v0 rfl rfl)
  have k0 := h0
  have lt0 : ∀ x ∈ p0, x.block < W.heap.size := by obtain ⟨m, hm⟩ := k0; exact DataW.trod_lt m _ _ _ hm
  have k1 := h1
  have lt1 : ∀ x ∈ p1, x.block < W.heap.size := by obtain ⟨m, hm⟩ := k1; exact DataW.trod_lt m _ _ _ hm
  obtain ⟨a1, rfl, w1⟩ := arg_file h1 (hval 1 44 v1 rfl rfl)
  have rd : ∃ l, ReadsEdits (just (hp W)) a0 len0 l ∧ len0 ≤ 1048576 := arg_edits k0 (by omega)
  rw [MakeChecks.laidMetH_plain _ _ _ (by kernel_rfl)] at hL
  have tab : TabIn (just (hp W)) := tab_of_laid hL
  clear hA0 hval0 hk hL
  have m := Mod.start W
  refine (manifestsUndo_walk a0 len0 cap0 a1 W W _ m w1 rd.choose rd.choose_spec.1 rd.choose_spec.2 tab).mono fun e W' ⟨he, hm⟩ => ?_
  have bel := below_of_mod hm
  subst he
  exact ⟨_, rfl, _, _, _, [], _, [], hW', trodAll_mk1 (shut_bool Tryz.underlying4 _), (trodAll_cons_mk (Below.trod laid_out (by kernel_rfl) (of_decide_eq_true (by kernel_rfl)) k0 bel lt0) (trodAll_cons_mk (Below.trod laid_out (by kernel_rfl) (of_decide_eq_true (by kernel_rfl)) k1 bel lt1) trodAll_mk0)), rfl, bel.frame _, fun h => by cases h⟩
set_option maxRecDepth 100000 in
theorem manifestsUndo_lifted (os : Os) (started : os.Started) (H : Type) (enc : TypeId × Value → H) (F : Stop.Interp) :
    ReturnsInHanded {} Tryz.checked os 4 .any ((Rows.OpenSpec.upto Rows.manifestsUndoSpec).preRow enc Tryz.prog Tryz.f4 Rows.manifestsUndoUptoRow.domain false Rows.manifestsUndoUptoRow.laid) (((Rows.OpenSpec.upto Rows.manifestsUndoSpec).at F).post enc Tryz.prog Tryz.f4 false true false false) := by
  refine returnsInHanded_of_row (C := Tryz.checked) (s := Rows.OpenSpec.upto Rows.manifestsUndoSpec) own_knob started (by kernel_rfl) Tryz.func4
    (witness_zip (enc := enc) (C := Tryz.checked) false (World.laidAll Tryz.prog os Rows.manifestsUndoUptoRow.laid) #[.slice none 0 0, .agg #[.int .u32 0, .int .i64 0, .string ⟨#[]⟩, .string ⟨#[]⟩]] (World.laidAll_os _ _ _) (World.shaped_of_ZipB (by kernel_rfl) (by kernel_rfl)) (by kernel_rfl) (manifestsUndo_there os H enc)) ?_
  intro W base args ds gs before hval hW _ hcond _ hL _ _
  exact manifestsUndo_contract H enc W base args ds gs before hval hW (hcond _ rfl) hL
set_option maxHeartbeats 4000000 in
theorem manifestsUndo_row : Rows.ManifestsUndoUptoSaid :=
  OpenClaim.holds_of_cond 4 Tryz.f4 rfl rfl rfl rfl rfl rfl rfl ⟨rfl, rfl, rfl, rfl, rfl⟩ rfl rfl rfl rfl rfl (by kernel_rfl) Tryz.func4
    (facts_of (by kernel_rfl) (by kernel_rfl) (by kernel_rfl) (by kernel_rfl) (by kernel_rfl) (by as_aux_lemma => kernel_rfl) (by as_aux_lemma => kernel_rfl) (by as_aux_lemma => kernel_rfl) (by as_aux_lemma => kernel_rfl) (by kernel_rfl) (by kernel_rfl) (by kernel_rfl) (by kernel_rfl) (by kernel_rfl) (by kernel_rfl) (by kernel_rfl) (by kernel_rfl) (by kernel_rfl) (by kernel_rfl) (by kernel_rfl) (by kernel_rfl) (by kernel_rfl) (by kernel_rfl) (by kernel_rfl) (by kernel_rfl) (by kernel_rfl))
    (of_decide_eq_true (by kernel_rfl)) (by unfold Func.isWrapper; first | (rw [if_pos (by decide +kernel)]; kernel_rfl) | (rw [if_neg (by decide +kernel)]; exact ⟨rfl, rfl⟩))
    (fun os started H enc _ F => by rw [OpenClaim.pre_eq_preRow]; exact manifestsUndo_lifted os started H enc F)
end Go.Proofs.YtmhlebpchllpbaaGreatDoor
