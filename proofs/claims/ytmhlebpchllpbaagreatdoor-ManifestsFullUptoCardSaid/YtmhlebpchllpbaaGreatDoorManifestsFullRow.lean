/- ManifestsFull answers true at every input of the second form's bulk and leaves its arguments as they were: the row, as given; the condition is the row's. -/
import Derived.Test.YtmhlebpchllpbaaGreatDoorTie
import Derived.Test.YtmhlebpchllpbaaGreatDoorCards
import Derived.Test.YtmhlebpchllpbaaGreatDoorFacts
import Derived.Test.YtmhlebpchllpbaaGreatDoorMfFG
import Derived.Test.YtmhlebpchllpbaaGreatDoorManifestsFullWalk
import Derived.ProofKit
import Derived.OpenShut
import Derived.SevenTiedAt
import Derived.JoinedCond
namespace Go.Proofs.YtmhlebpchllpbaaGreatDoor
open Go.ChangeShapes Go.WideShapes Go.ChangeAt Go.RowKit Go.Sl
theorem manifestsFull_reads (os : Os) (H : Type) (enc : TypeId × Value → H) : (DataW.whole enc Tryz.prog (((World.laidAll Tryz.prog os Rows.manifestsFullUptoRow.laid).forCall (fun _ _ => 0) ⟨#[], #[.int .u16 0, .slice none 0 0], []⟩).memory) Tryz.f3.params.toList (Rows.OpenSpec.upto Rows.manifestsFullSpec).vars false #[(.int .u16 0 : Value), .slice none 0 0].toList 8).map (fun x => (x.1, x.2.1)) = some ([.lit (.int .u16 0), .nil], []) := by kernel_rfl
theorem manifestsFull_there (os : Os) (H : Type) (enc : TypeId × Value → H) : (Rows.OpenSpec.upto Rows.manifestsFullSpec).preRow enc Tryz.prog Tryz.f3 Rows.manifestsFullUptoRow.domain false Rows.manifestsFullUptoRow.laid (((World.laidAll Tryz.prog os Rows.manifestsFullUptoRow.laid).forCall (fun _ _ => 0) ⟨#[], #[.int .u16 0, .slice none 0 0], []⟩).memory) #[.int .u16 0, .slice none 0 0] := by
  obtain ⟨⟨x1, x2, x3⟩, hx, hx1⟩ := Option.map_eq_some_iff.1 (manifestsFull_reads os H enc)
  simp only [Prod.mk.injEq] at hx1
  obtain ⟨rfl, rfl⟩ := hx1
  exact OpenSpec.preRow_of_cond 8 hx (by kernel_rfl) (fun k hk => by cases hk; kernel_rfl) (by kernel_rfl) (by rw [MakeChecks.laidMetH_plain _ _ _ (by kernel_rfl)]; exact laidMet_laidAll _ (by kernel_rfl) (by kernel_rfl))
set_option maxRecDepth 100000 in
theorem manifestsFull_contract (H : Type) (enc : TypeId × Value → H) (W : World) (base : Nat) (args : Array Value) (ds gs : List (DataW H)) (before : List MemPlace)
    (hval0 : ∀ (j : Nat) t v, Tryz.f3.params[j]? = some t → args[j]? = some v → Value.okWide Tryz.prog W .any base t v)
    (hW : DataW.Whole enc Tryz.prog Tryz.f3.params.toList Rows.manifestsFullSpec.vars false W args.toList ds gs before) (hk : Rows.uptoSmall H (ds ++ gs) = true) (hL : laidMetH Tryz.prog Rows.manifestsFullUptoRow.laid W) :
    Calls Tryz.prog 3 args W fun e W' => ∃ v, e = .returned v ∧ Rows.manifestsFullSpec.post enc Tryz.prog Tryz.f3 false true false false W args v W' := by
  have hval : ∀ (j : Nat) t v, Tryz.f3.params[j]? = some t → args[j]? = some v → Value.okWide Tryz.prog W .any base t v := hval0
  have hW' := hW
  obtain ⟨p, q, hA0, hV, rfl, _, _⟩ := hW
  have hA : DataW.TrodAll enc Tryz.prog W 0 (fun _ => true) true Tryz.f3.params.toList args.toList ds p := hA0
  rw [Tryz.params3] at hA hval
  obtain ⟨v0, vs0, d0, ds0, p0, q0, hargs, rfl, rfl, h0, r0⟩ := trodAll_cons hA
  obtain ⟨v1, vs1, d1, ds1, p1, q1, rfl, rfl, rfl, h1, r1⟩ := trodAll_cons r0
  obtain ⟨rfl, rfl, rfl⟩ := trodAll_nil r1
  obtain rfl : args = #[v0, v1] := by cases args; simp_all
  obtain ⟨rfl, rfl⟩ := trodVars_none hV
  have hb := of_decide_eq_true hk
  simp only [List.append_nil, Rows.uptoBulkAll] at hb
  obtain ⟨a0, rfl, rfl, rfl, w0⟩ := open_int Tryz.underlying22 (hval 0 22 v0 rfl rfl) h0
  obtain ⟨a1, len1, cap1, rfl⟩ := okWide_slice Tryz.underlying23 (hval 1 23 v1 rfl rfl)
  have k1 := h1
  have lt1 : ∀ x ∈ p1, x.block < W.heap.size := by obtain ⟨m, hm⟩ := k1; exact DataW.trod_lt m _ _ _ hm
  have rd : (0 ≤ a0 ∧ a0 < 65536) ∧ ∃ l, ReadsEdits (just (hp W)) a1 len1 l ∧ len1 ≤ 1048576 := by
    obtain ⟨n, rfl, hn⟩ := wf_u16 w0
    exact ⟨by omega, arg_edits k1 (by omega)⟩
  rw [MakeChecks.laidMetH_plain _ _ _ (by kernel_rfl)] at hL
  have tab : TabIn (just (hp W)) := tab_of_laid hL
  clear hA0 hval0 hk hL
  have m := Mod.start W
  refine (manifestsFull_walk a0 a1 len1 cap1 W W _ m rd.1 rd.2.choose rd.2.choose_spec.1 rd.2.choose_spec.2 tab).mono fun e W' ⟨he, hm⟩ => ?_
  have bel := below_of_mod hm
  subst he
  exact ⟨_, rfl, _, _, _, [], _, [], hW', trodAll_mk1 (shut_bool Tryz.underlying4 _), (trodAll_cons_mk (shut_int Tryz.underlying22 w0) (trodAll_cons_mk (Below.trod laid_out (by kernel_rfl) (of_decide_eq_true (by kernel_rfl)) k1 bel lt1) trodAll_mk0)), rfl, bel.frame _, fun h => by cases h⟩
set_option maxRecDepth 100000 in
theorem manifestsFull_lifted (os : Os) (started : os.Started) (H : Type) (enc : TypeId × Value → H) (F : Stop.Interp) :
    ReturnsInHanded {} Tryz.checked os 3 .any ((Rows.OpenSpec.upto Rows.manifestsFullSpec).preRow enc Tryz.prog Tryz.f3 Rows.manifestsFullUptoRow.domain false Rows.manifestsFullUptoRow.laid) (((Rows.OpenSpec.upto Rows.manifestsFullSpec).at F).post enc Tryz.prog Tryz.f3 false true false false) := by
  refine returnsInHanded_of_row (C := Tryz.checked) (s := Rows.OpenSpec.upto Rows.manifestsFullSpec) own_knob started (by kernel_rfl) Tryz.func3
    (witness_zip (enc := enc) (C := Tryz.checked) false (World.laidAll Tryz.prog os Rows.manifestsFullUptoRow.laid) #[.int .u16 0, .slice none 0 0] (World.laidAll_os _ _ _) (World.shaped_of_ZipB (by kernel_rfl) (by kernel_rfl)) (by kernel_rfl) (manifestsFull_there os H enc)) ?_
  intro W base args ds gs before hval hW _ hcond _ hL _ _
  exact manifestsFull_contract H enc W base args ds gs before hval hW (hcond _ rfl) hL
set_option maxHeartbeats 4000000 in
theorem manifestsFull_row : Rows.ManifestsFullUptoSaid :=
  OpenClaim.holds_of_cond 3 Tryz.f3 rfl rfl rfl rfl rfl rfl rfl ⟨rfl, rfl, rfl, rfl, rfl⟩ rfl rfl rfl rfl rfl (by kernel_rfl) Tryz.func3
    (facts_of (by kernel_rfl) (by kernel_rfl) (by kernel_rfl) (by kernel_rfl) (by kernel_rfl) (by as_aux_lemma => kernel_rfl) (by as_aux_lemma => kernel_rfl) (by as_aux_lemma => kernel_rfl) (by as_aux_lemma => kernel_rfl) (by kernel_rfl) (by kernel_rfl) (by kernel_rfl) (by kernel_rfl) (by kernel_rfl) (by kernel_rfl) (by kernel_rfl) (by kernel_rfl) (by kernel_rfl) (by kernel_rfl) (by kernel_rfl) (by kernel_rfl) (by kernel_rfl) (by kernel_rfl) (by kernel_rfl) (by kernel_rfl) (by kernel_rfl))
    (of_decide_eq_true (by kernel_rfl)) (by unfold Func.isWrapper; first | (rw [if_pos (by decide +kernel)]; kernel_rfl) | (rw [if_neg (by decide +kernel)]; exact ⟨rfl, rfl⟩))
    (fun os started H enc _ F => by rw [OpenClaim.pre_eq_preRow]; exact manifestsFull_lifted os started H enc F)
end Go.Proofs.YtmhlebpchllpbaaGreatDoor
