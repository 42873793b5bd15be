/- The walk of FilesMoves: it returns true and changes nothing that was there; no condition. -/
import Derived.Test.YtabekogiaobnfaaDoorTwo
import Derived.Test.YtabekogiaobnfaaDoorOpen
namespace Go.Proofs.YtabekogiaobnfaaDoor
open Go.RowKit Go.Sl
attribute [local go_sem] cell_of frozen_of zero_names conv_sb
theorem ok_old : nameOk ⟨#[111, 108, 100]⟩ = true := by rw [nameOk_eq]; decide
theorem ok_new : nameOk ⟨#[110, 101, 119]⟩ = true := by rw [nameOk_eq]; decide
theorem ok_newold : (nameOk ⟨#[110, 101, 119]⟩ && nameOk ⟨#[111, 108, 100]⟩) = true := by rw [ok_new, ok_old]; rfl
theorem left_two {n : Nat} {a b : ByteArray} {g h : Nat} {l r : List UInt8} (hg : h ≠ g) (keep : Nat) : ((namesLeft (moved n a g ⟨l, l.length⟩ h ⟨r, r.length⟩ [(a, g), (b, h)]) false).map fun q => (q.1, keptOf (moved n a g ⟨l, l.length⟩ h ⟨r, r.length⟩ [(a, g), (b, h)]) keep q.2)) = [(a, ⟨l, l.length⟩), (b, ⟨r, r.length⟩)] := by
  show [(a, keptOf _ keep g), (b, keptOf _ keep h)] = _
  rw [keptOf_moved1 hg, keptOf_moved, kept_sure, kept_sure]
theorem ne_old : (⟨#[111, 108, 100]⟩ : ByteArray) ≠ ⟨#[110, 101, 119]⟩ := by decide
set_option maxRecDepth 6000 in
set_option maxHeartbeats 4000000 in
theorem filesMoves_run (a b : ByteArray) (sure : Bool) (keep : Nat) (w w0 : World) (S : Asn) [m : Mod w w0 S] (ha : a.size ≤ 4611686018427387903) (hb : b.size ≤ 4611686018427387903) (hk : keep < 256) :
    Calls Tryd.prog 10 #[.agg #[.string a, .string b], .bool sure, .int .u8 (keep : Int)] w fun e w' => e = .returned (.bool true) ∧ Mod w' w0 S := by
  by_cases hbig : (10000 : Int) < (a.size : Int) + (b.size : Int)
  · go_enter Tryd.func10, Tryd.ntmps10
    go_wp2_with first
      | (go_at_call 33; refine (alive5_spec _ w0 _ inferInstance).mono ?_; rintro e w1 ⟨rfl, _m1⟩)
    go_ret
    exact ⟨rfl, Mod.sub S⟩
  · go_enter Tryd.func10, Tryd.ntmps10
    go_wp2_with first
      | (go_at_call 33; refine (alive5_spec _ w0 _ inferInstance).mono ?_; rintro e w1 ⟨rfl, _m1⟩)
      | (go_at_call 35; refine (new_ok 20000 _ w0 _ inferInstance (by omega) (by omega)).mono ?_; rintro e w2 ⟨p, rfl, _m2⟩)
    have flag := True.intro
    go_wp2_with first
      | (go_at_call 28; clear flag; refine (create_ok p (newDisk 20000) ⟨#[111, 108, 100]⟩ _ w0 _ _ inferInstance inferInstance (by decide) ok_old rfl (by decide)).mono ?_; rintro e w3 ⟨g, rfl, _, _m3⟩; rw [created_one] at _m3; try simp only [emp_sep] at _m3)
    have flag := True.intro
    go_wp2_with first
      | (go_at_call 28; clear flag; refine (create_ok p (one 20000 ⟨#[111, 108, 100]⟩ g ⟨[], 0⟩ []) ⟨#[110, 101, 119]⟩ _ w0 _ _ inferInstance inferInstance (by decide) ok_new (mget_ne _ ne_old) (by simp [one])).mono ?_; rintro e w4 ⟨h, rfl, hf, _m4⟩; have hgh := fresh_one hf; clear hf; rw [created_pair ne_old] at _m4; try simp only [emp_sep] at _m4)
    have flag := True.intro
    go_wp2_with first
      | (go_at_call 29; clear flag; refine (append_str p (pair 20000 ⟨#[111, 108, 100]⟩ g ⟨[], 0⟩ ⟨#[110, 101, 119]⟩ h ⟨[], 0⟩ []) ⟨#[111, 108, 100]⟩ _ w0 _ _ inferInstance inferInstance (by decide) _ _ a g _ ok_old mget_pair1 (fget_pair1 hgh) (by rw [left_pair hgh]; simp; omega) (by simp; omega)).mono ?_; rintro e w5 ⟨rfl, _m5⟩; rw [put_pair1 hgh, List.nil_append] at _m5; try simp only [emp_sep] at _m5)
    have flag := True.intro
    go_wp2_with first
      | (go_at_call 29; clear flag; refine (append_str p (pair 20000 ⟨#[111, 108, 100]⟩ g ⟨a.data.toList, 0⟩ ⟨#[110, 101, 119]⟩ h ⟨[], 0⟩ []) ⟨#[110, 101, 119]⟩ _ w0 _ _ inferInstance inferInstance (by decide) _ _ b h _ ok_new (mget_pair2 ne_old) fget_pair2 (by rw [left_pair hgh]; simp; omega) (by simp; omega)).mono ?_; rintro e w6 ⟨rfl, _m6⟩; rw [put_pair2, List.nil_append] at _m6; try simp only [emp_sep] at _m6)
    have flag := True.intro
    go_wp2_with first
      | (go_at_call 38; clear flag; refine (sync_some p (pair 20000 ⟨#[111, 108, 100]⟩ g ⟨a.data.toList, 0⟩ ⟨#[110, 101, 119]⟩ h ⟨b.data.toList, 0⟩ []) ⟨#[111, 108, 100]⟩ _ w0 _ _ inferInstance inferInstance (by decide) g _ ok_old mget_pair1 (fget_pair1 hgh)).mono ?_; rintro e w7 ⟨rfl, _m7⟩; rw [put_pair1 hgh] at _m7; try simp only [emp_sep] at _m7)
    have flag := True.intro
    go_wp2_with first
      | (go_at_call 38; clear flag; refine (sync_some p (pair 20000 ⟨#[111, 108, 100]⟩ g ⟨a.data.toList, a.data.toList.length⟩ ⟨#[110, 101, 119]⟩ h ⟨b.data.toList, 0⟩ []) ⟨#[110, 101, 119]⟩ _ w0 _ _ inferInstance inferInstance (by decide) h _ ok_new (mget_pair2 ne_old) fget_pair2).mono ?_; rintro e w8 ⟨rfl, _m8⟩; rw [put_pair2] at _m8; try simp only [emp_sep] at _m8)
    have flag := True.intro
    go_wp2_with first
      | (go_at_call 31; clear flag; refine (names_spec p (pair 20000 ⟨#[111, 108, 100]⟩ g ⟨a.data.toList, a.data.toList.length⟩ ⟨#[110, 101, 119]⟩ h ⟨b.data.toList, b.data.toList.length⟩ []) _ w0 _ _ inferInstance inferInstance).mono ?_; rintro e w9 ⟨rfl, _m9⟩; rw [names_pair] at _m9; try simp only [emp_sep] at _m9)
    have flag := True.intro
    go_wp2_with first
      | (go_at_call 39; clear flag; refine (rename_ok p (pair 20000 ⟨#[111, 108, 100]⟩ g ⟨a.data.toList, a.data.toList.length⟩ ⟨#[110, 101, 119]⟩ h ⟨b.data.toList, b.data.toList.length⟩ [(⟨#[111, 108, 100]⟩, g), (⟨#[110, 101, 119]⟩, h)]) ⟨#[110, 101, 119]⟩ _ w0 _ _ inferInstance inferInstance (by decide) ⟨#[111, 108, 100]⟩ (by decide) h ok_newold (mget_pair2 ne_old)).mono ?_; rintro e w10 ⟨rfl, _m10⟩; rw [renamed_pair ne_old] at _m10; try simp only [emp_sep] at _m10)
    have flag := True.intro
    go_wp2_with first
      | (go_at_call 36; clear flag; refine (all_spec p (moved 20000 ⟨#[111, 108, 100]⟩ g ⟨a.data.toList, a.data.toList.length⟩ h ⟨b.data.toList, b.data.toList.length⟩ [(⟨#[111, 108, 100]⟩, g), (⟨#[110, 101, 119]⟩, h)]) ⟨#[111, 108, 100]⟩ _ w0 _ _ inferInstance inferInstance (by decide)).mono ?_; rw [allOf_moved ok_old]; rintro e w11 ⟨rfl, _m11⟩;  try simp only [emp_sep] at _m11)
    have flag := True.intro
    go_wp2_with first
      | (go_at_call 37; clear flag; refine (left_spec p (moved 20000 ⟨#[111, 108, 100]⟩ g ⟨a.data.toList, a.data.toList.length⟩ h ⟨b.data.toList, b.data.toList.length⟩ [(⟨#[111, 108, 100]⟩, g), (⟨#[110, 101, 119]⟩, h)]) _ w0 _ _ inferInstance inferInstance).mono ?_; rw [left_moved]; rintro e w12 ⟨rfl, _m12⟩;  try simp only [emp_sep] at _m12)
    · have flag := True.intro
      go_wp2_with first
        | (go_at_call 31; clear flag; refine (names_spec p (moved 20000 ⟨#[111, 108, 100]⟩ g ⟨a.data.toList, a.data.toList.length⟩ h ⟨b.data.toList, b.data.toList.length⟩ [(⟨#[111, 108, 100]⟩, g), (⟨#[110, 101, 119]⟩, h)]) _ w0 _ _ inferInstance inferInstance).mono ?_; rintro e w21 ⟨rfl, _m21⟩; rw [names_moved] at _m21; try simp only [emp_sep] at _m21)
      have flag := True.intro
      go_wp2_with first
        | (go_at_call 32; clear flag; refine (fail_single p (moved 20000 ⟨#[111, 108, 100]⟩ g ⟨a.data.toList, a.data.toList.length⟩ h ⟨b.data.toList, b.data.toList.length⟩ [(⟨#[111, 108, 100]⟩, h)]) _ w0 _ _ inferInstance inferInstance keep false (by omega) ⟨#[111, 108, 100]⟩ h rfl ⟨b.data.toList, b.data.toList.length⟩ ((keptOf_moved keep).trans (kept_sure keep _))).mono ?_; rintro e w22 ⟨px, gx, rfl, _m22⟩;  try simp only [emp_sep] at _m22)
      have flag := True.intro
      go_wp2_with first
        | (go_at_call 32; clear flag; refine (fail_single p (moved 20000 ⟨#[111, 108, 100]⟩ g ⟨a.data.toList, a.data.toList.length⟩ h ⟨b.data.toList, b.data.toList.length⟩ [(⟨#[111, 108, 100]⟩, h)]) _ w0 _ _ inferInstance inferInstance keep true (by omega) ⟨#[111, 108, 100]⟩ h rfl ⟨b.data.toList, b.data.toList.length⟩ ((keptOf_moved keep).trans (kept_sure keep _))).mono ?_; rintro e w23 ⟨py, gy, rfl, _m23⟩;  try simp only [emp_sep] at _m23)
      have flag := True.intro
      go_wp2_with first
        | (go_at_call 36; clear flag; refine (all_spec py (one 20000 ⟨#[111, 108, 100]⟩ gy ⟨b.data.toList, b.data.toList.length⟩ [(⟨#[111, 108, 100]⟩, gy)]) ⟨#[111, 108, 100]⟩ _ w0 _ _ inferInstance inferInstance (by decide)).mono ?_; rw [allOf_one _ _ _ _ _ ok_old]; rintro e w24 ⟨rfl, _m24⟩;  try simp only [emp_sep] at _m24)
      have flag := True.intro
      go_wp2_with first
        | (go_at_call 40; clear flag; refine (list_spec py (one 20000 ⟨#[111, 108, 100]⟩ gy ⟨b.data.toList, b.data.toList.length⟩ [(⟨#[111, 108, 100]⟩, gy)]) _ w0 _ _ inferInstance inferInstance).mono ?_; rw [list_one]; rintro e w25 ⟨B1, c1, rfl, _m25⟩)
      have flag := True.intro
      go_wp2_with first
        | (go_at_call 36; clear flag; refine (all_spec px (one 20000 ⟨#[111, 108, 100]⟩ gx ⟨b.data.toList, b.data.toList.length⟩ [(⟨#[111, 108, 100]⟩, gx)]) ⟨#[111, 108, 100]⟩ _ w0 _ _ inferInstance inferInstance (by decide)).mono ?_; rw [allOf_one _ _ _ _ _ ok_old]; rintro e w26 ⟨rfl, _m26⟩;  try simp only [emp_sep] at _m26)
      have flag := True.intro
      go_wp2_with first
        | (go_at_call 40; clear flag; refine (list_spec px (one 20000 ⟨#[111, 108, 100]⟩ gx ⟨b.data.toList, b.data.toList.length⟩ [(⟨#[111, 108, 100]⟩, gx)]) _ w0 _ _ inferInstance inferInstance).mono ?_; rw [list_one]; rintro e w27 ⟨B2, c2, rfl, _m27⟩)
      have flag := True.intro
      go_wp2_with first
        | (go_at_call 39; clear flag; refine (rename_none p (moved 20000 ⟨#[111, 108, 100]⟩ g ⟨a.data.toList, a.data.toList.length⟩ h ⟨b.data.toList, b.data.toList.length⟩ [(⟨#[111, 108, 100]⟩, h)]) ⟨#[110, 101, 119]⟩ _ w0 _ _ inferInstance inferInstance (by decide) ⟨#[111, 108, 100]⟩ (by decide) ok_newold (mget_ne _ ne_old)).mono ?_; rintro e w28 ⟨rfl, _m28⟩;  try simp only [emp_sep] at _m28)
      go_ret
      exact ⟨rfl, Mod.sub S⟩
    · have flag := True.intro
      go_wp2_with first
        | (go_at_call 32; clear flag; refine (fail_ok p (moved 20000 ⟨#[111, 108, 100]⟩ g ⟨a.data.toList, a.data.toList.length⟩ h ⟨b.data.toList, b.data.toList.length⟩ [(⟨#[111, 108, 100]⟩, g), (⟨#[110, 101, 119]⟩, h)]) _ w0 _ _ inferInstance inferInstance keep false (by omega)).mono ?_; rintro e w29 ⟨px, M, rfl, hM, hd, hok, _m29⟩; rw [left_two hgh keep] at hM;  try simp only [emp_sep] at _m29)
      have hxa : allOf ⟨20000, M.dir, M.dir, M.tab⟩ ⟨#[111, 108, 100]⟩ = a.data.toList := made_all hok hd (f := ⟨a.data.toList, a.data.toList.length⟩) (hM.symm.subset (by simp))
      have hxb : allOf ⟨20000, M.dir, M.dir, M.tab⟩ ⟨#[110, 101, 119]⟩ = b.data.toList := made_all hok hd (f := ⟨b.data.toList, b.data.toList.length⟩) (hM.symm.subset (by simp))
      have hxn : (listOf ⟨20000, M.dir, M.dir, M.tab⟩).length = 2 := by rw [made_count]; have := hM.length_eq; simpa using this
      have flag := True.intro
      go_wp2_with first
        | (go_at_call 32; clear flag; refine (fail_single p (moved 20000 ⟨#[111, 108, 100]⟩ g ⟨a.data.toList, a.data.toList.length⟩ h ⟨b.data.toList, b.data.toList.length⟩ [(⟨#[111, 108, 100]⟩, g), (⟨#[110, 101, 119]⟩, h)]) _ w0 _ _ inferInstance inferInstance keep true (by omega) ⟨#[111, 108, 100]⟩ h rfl ⟨b.data.toList, b.data.toList.length⟩ ((keptOf_moved keep).trans (kept_sure keep _))).mono ?_; rintro e w31 ⟨py, gy, rfl, _m31⟩;  try simp only [emp_sep] at _m31)
      have flag := True.intro
      go_wp2_with first
        | (go_at_call 36; clear flag; refine (all_spec py (one 20000 ⟨#[111, 108, 100]⟩ gy ⟨b.data.toList, b.data.toList.length⟩ [(⟨#[111, 108, 100]⟩, gy)]) ⟨#[111, 108, 100]⟩ _ w0 _ _ inferInstance inferInstance (by decide)).mono ?_; rw [allOf_one _ _ _ _ _ ok_old]; rintro e w32 ⟨rfl, _m32⟩;  try simp only [emp_sep] at _m32)
      have flag := True.intro
      go_wp2_with first
        | (go_at_call 40; clear flag; refine (list_spec py (one 20000 ⟨#[111, 108, 100]⟩ gy ⟨b.data.toList, b.data.toList.length⟩ [(⟨#[111, 108, 100]⟩, gy)]) _ w0 _ _ inferInstance inferInstance).mono ?_; rw [list_one]; rintro e w33 ⟨B1, c1, rfl, _m33⟩)
      have flag := True.intro
      go_wp2_with first
        | (go_at_call 36; clear flag; refine (all_spec px ⟨20000, M.dir, M.dir, M.tab⟩ ⟨#[111, 108, 100]⟩ _ w0 _ _ inferInstance inferInstance (by decide)).mono ?_; rw [hxa]; rintro e w34 ⟨rfl, _m34⟩;  try simp only [emp_sep] at _m34)
      have flag := True.intro
      go_wp2_with first
        | (go_at_call 36; clear flag; refine (all_spec px ⟨20000, M.dir, M.dir, M.tab⟩ ⟨#[110, 101, 119]⟩ _ w0 _ _ inferInstance inferInstance (by decide)).mono ?_; rw [hxb]; rintro e w35 ⟨rfl, _m35⟩;  try simp only [emp_sep] at _m35)
      have flag := True.intro
      go_wp2_with first
        | (go_at_call 40; clear flag; refine (list_spec px ⟨20000, M.dir, M.dir, M.tab⟩ _ w0 _ _ inferInstance inferInstance).mono ?_; rw [hxn]; rintro e w36 ⟨B2, c2, rfl, _m36⟩;  try simp only [emp_sep] at _m36)
      go_ret
      exact ⟨rfl, Mod.sub S⟩
theorem filesMoves_walk (a b : ByteArray) (sure : Bool) (k : Int) (w w0 : World) (S : Asn) [m : Mod w w0 S] {q : Prop} (_ : q) (hk : (Lit.int .u8 k).wf = true) (hs : a.size ≤ reachBytes ∧ b.size ≤ reachBytes) :
    Calls Tryd.prog 10 #[.agg #[.string a, .string b], .bool sure, .int .u8 k] w fun e w' => e = .returned (.bool true) ∧ Mod w' w0 S := by
  obtain ⟨n, rfl, hn⟩ := wf_u8 hk
  unfold reachBytes at hs
  exact filesMoves_run a b sure n w w0 S (by omega) (by omega) hn
end Go.Proofs.YtabekogiaobnfaaDoor
