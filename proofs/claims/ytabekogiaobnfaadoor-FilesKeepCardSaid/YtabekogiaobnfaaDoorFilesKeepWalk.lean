/- The walk of FilesKeep: it returns true and changes nothing that was there; no condition. -/
import Derived.Test.YtabekogiaobnfaaDoorTwo
import Derived.Test.YtabekogiaobnfaaDoorOpen
import Derived.Deep.QuietTactic
import Derived.BigQuiet
namespace Go.Proofs.YtabekogiaobnfaaDoor
open Go.RowKit Go.Sl
attribute [local go_sem] cell_of frozen_of zero_names conv_sb
set_option maxRecDepth 6000 in
set_option maxHeartbeats 4000000 in
theorem filesKeep_run (a b : ByteArray) (k1 k2 : Nat) (w w0 : World) (S : Asn) [m : Mod w w0 S] (ha : a.size ≤ 4611686018427387903) (hb : b.size ≤ 4611686018427387903) (hk1 : k1 < 65536) (hk2 : k2 < 65536) :
    Calls Tryd.prog 12 #[.agg #[.string a, .string b], .agg #[.int .u16 (k1 : Int), .int .u16 (k2 : Int)]] w fun e w' => e = .returned (.bool true) ∧ Mod w' w0 S := by
  by_cases hbig : (5000 : Int) < (a.size : Int) + (b.size : Int)
  · go_enter Tryd.func12, Tryd.ntmps12
    go_wp2_with first
      | (go_at_call 33; refine (alive5_spec _ w0 _ inferInstance).mono ?_; rintro e w1 ⟨rfl, _m1⟩)
    go_ret
    exact ⟨rfl, Mod.sub S⟩
  · go_enter Tryd.func12, Tryd.ntmps12
    go_wp2_with first
      | (go_at_call 33; refine (alive5_spec _ w0 _ inferInstance).mono ?_; rintro e w1 ⟨rfl, _m1⟩)
      | (go_at_call 35; refine (new_ok 30000 _ w0 _ inferInstance (by omega) (by omega)).mono ?_; rintro e w2 ⟨p, rfl, _m2⟩)
    have flag := True.intro
    go_wp2_with first
      | (go_at_call 28; clear flag; refine (create_ok p (newDisk 30000) ⟨#[97]⟩ _ w0 _ _ inferInstance inferInstance (by decide) ok_a rfl (by decide)).mono ?_; rintro e w3 ⟨g, rfl, _, _m3⟩; rw [created_one] at _m3; try simp only [emp_sep] at _m3)
    have flag := True.intro
    go_wp2_with first
      | (go_at_call 29; clear flag; refine (append_str p (one 30000 ⟨#[97]⟩ g ⟨[], 0⟩ []) ⟨#[97]⟩ _ w0 _ _ inferInstance inferInstance (by decide) _ _ a g _ ok_a (mget_one _ _) (fget_one _ _) (by rw [left_one]; simp; omega) (by simp; omega)).mono ?_; rintro e w5 ⟨rfl, _m5⟩; rw [append_one, List.nil_append] at _m5; try simp only [emp_sep] at _m5)
    have flag := True.intro
    go_wp2_with first
      | (go_at_call 38; clear flag; refine (sync_some p (one 30000 ⟨#[97]⟩ g ⟨a.data.toList, 0⟩ []) ⟨#[97]⟩ _ w0 _ _ inferInstance inferInstance (by decide) g _ ok_a (mget_one _ _) (fget_one _ _)).mono ?_; rintro e w7 ⟨rfl, _m7⟩; rw [append_one] at _m7; try simp only [emp_sep] at _m7)
    have flag := True.intro
    go_wp2_with first
      | (go_at_call 29; clear flag; refine (append_str p (one 30000 ⟨#[97]⟩ g ⟨a.data.toList, a.data.toList.length⟩ []) ⟨#[97]⟩ _ w0 _ _ inferInstance inferInstance (by decide) _ _ b g _ ok_a (mget_one _ _) (fget_one _ _) (by rw [left_one]; simp only [size_toList]; omega) (by simp only [size_toList]; omega)).mono ?_; rintro e w8 ⟨rfl, _m8⟩; rw [append_one] at _m8; try simp only [emp_sep] at _m8)
    obtain ⟨fx, hx⟩ : ∃ fx, kept (min k1 k2) ⟨a.data.toList ++ b.data.toList, a.data.toList.length⟩ = fx := ⟨_, rfl⟩
    obtain ⟨fy, hy⟩ : ∃ fy, kept (max k1 k2) ⟨a.data.toList ++ b.data.toList, a.data.toList.length⟩ = fy := ⟨_, rfl⟩
    obtain ⟨fz, hz⟩ : ∃ fz, kept b.size ⟨a.data.toList ++ b.data.toList, a.data.toList.length⟩ = fz := ⟨_, rfl⟩
    have flag := True.intro
    go_wp2_with first
      | (go_at_call 32; clear flag; refine (fail_one p 30000 ⟨#[97]⟩ g ⟨a.data.toList ++ b.data.toList, a.data.toList.length⟩ [] _ w0 _ _ inferInstance inferInstance (min k1 k2) true (by omega) ⟨#[97]⟩ rfl fx hx _ (by omega)).mono ?_; rintro e w9 ⟨px, gx, rfl, _m9⟩)
    have flag := True.intro
    go_wp2_with first
      | (go_at_call 32; clear flag; refine (fail_one p 30000 ⟨#[97]⟩ g ⟨a.data.toList ++ b.data.toList, a.data.toList.length⟩ [] _ w0 _ _ inferInstance inferInstance (max k1 k2) true (by omega) ⟨#[97]⟩ rfl fy hy _ (by omega)).mono ?_; rintro e w10 ⟨py, gy, rfl, _m10⟩)
    have flag := True.intro
    go_wp2_with first
      | (go_at_call 32; clear flag; refine (fail_one p 30000 ⟨#[97]⟩ g ⟨a.data.toList ++ b.data.toList, a.data.toList.length⟩ [] _ w0 _ _ inferInstance inferInstance b.size true (by omega) ⟨#[97]⟩ rfl fz hz _ rfl).mono ?_; rintro e w11 ⟨pz, gz, rfl, _m11⟩)
    have flag := True.intro
    go_wp2_with first
      | (go_at_call 36; clear flag; refine (all_spec px (one 30000 ⟨#[97]⟩ gx fx [(⟨#[97]⟩, gx)]) ⟨#[97]⟩ _ w0 _ _ inferInstance inferInstance (by decide)).mono ?_; rw [allOf_one _ _ _ _ _ ok_a]; rintro e w12 ⟨rfl, _m12⟩)
    have flag := True.intro
    go_wp2_with first
      | (go_at_call 36; clear flag; refine (all_spec py (one 30000 ⟨#[97]⟩ gy fy [(⟨#[97]⟩, gy)]) ⟨#[97]⟩ _ w0 _ _ inferInstance inferInstance (by decide)).mono ?_; rw [allOf_one _ _ _ _ _ ok_a]; rintro e w13 ⟨rfl, _m13⟩)
    have hl : fx.bytes.length ≤ fy.bytes.length ∧ a.size ≤ fx.bytes.length ∧ fy.bytes.length ≤ a.size + b.size ∧ fy.bytes.take fx.bytes.length = fx.bytes ∧ fz.bytes = a.data.toList ++ b.data.toList := by
      rw [← hx, ← hy, ← hz]
      simp only [kept, List.length_append, size_toList, List.length_take, List.take_take]
      refine ⟨by omega, by omega, by omega, ?_, ?_⟩
      · congr 1; omega
      · rw [List.take_of_length_le]; simp only [List.length_append, size_toList]; omega
    obtain ⟨hl1, hl2, hl3, hl4, hl5⟩ := hl
    have hsl : ((⟨fy.bytes.toArray⟩ : ByteArray).extract 0 fx.bytes.length).toList = fx.bytes := by rw [text_extract]; exact hl4
    have Hl5 := Lib.hid hl5
    clear hl5 hx hy hz
    obtain ⟨SS, hSS, mSS⟩ : ∃ SS, SS = _ ∧ Mod _ w0 SS := ⟨_, rfl, _m13⟩
    have hh : Has SS w.heap.size (.cells #[.string a, .string b] 70 (0, 0)) := by rw [hSS]; infer_instance
    obtain ⟨Fx, tx⟩ : ∃ F, Take SS (diskA px) (one 30000 ⟨#[97]⟩ gx fx [(⟨#[97]⟩, gx)]) F := ⟨_, by rw [hSS]; infer_instance⟩
    obtain ⟨Fy, ty⟩ : ∃ F, Take SS (diskA py) (one 30000 ⟨#[97]⟩ gy fy [(⟨#[97]⟩, gy)]) F := ⟨_, by rw [hSS]; infer_instance⟩
    obtain ⟨Fz, tz⟩ : ∃ F, Take SS (diskA pz) (one 30000 ⟨#[97]⟩ gz fz [(⟨#[97]⟩, gz)]) F := ⟨_, by rw [hSS]; infer_instance⟩
    have hsub : Sub SS S := by rw [hSS]; infer_instance
    clear hSS
    have := Held.some mSS
    refine wp_region_mod mSS (by kernel_rfl) (by kernel_rfl) ?_
    clear _m13
    have hZ : ∀ u, Mod u w0 SS → Calls Tryd.prog 36 #[ptr pz, .string ⟨#[97]⟩] u fun e w' => e = .returned (.string (a ++ b)) ∧ Mod w' w0 SS := fun u mu => by
      have h := all_spec pz (one 30000 ⟨#[97]⟩ gz fz [(⟨#[97]⟩, gz)]) ⟨#[97]⟩ u w0 SS _ mu tz (by decide)
      rw [allOf_one _ _ _ _ _ ok_a, Hl5.out, text_append] at h
      exact h
    have hX : ∀ u, Mod u w0 SS → Calls Tryd.prog 37 #[ptr px] u fun e w' => e = .returned (.int .i64 (30000 - fx.bytes.length : Int)) ∧ Mod w' w0 SS := fun u mu => by
      have h := left_spec px (one 30000 ⟨#[97]⟩ gx fx [(⟨#[97]⟩, gx)]) u w0 SS _ mu tx
      rw [left_one, Int.ofNat_sub (by omega)] at h
      exact h
    have hY : ∀ u, Mod u w0 SS → Calls Tryd.prog 37 #[ptr py] u fun e w' => e = .returned (.int .i64 (30000 - fy.bytes.length : Int)) ∧ Mod w' w0 SS := fun u mu => by
      have h := left_spec py (one 30000 ⟨#[97]⟩ gy fy [(⟨#[97]⟩, gy)]) u w0 SS _ mu ty
      rw [left_one, Int.ofNat_sub (by omega)] at h
      exact h
    have HX := Lib.hid hX
    have HY := Lib.hid hY
    have HZ := Lib.hid hZ
    clear hX hY hZ tx ty tz
    repeat (go_big_quiet_step (first
      | (go_at_call 36; refine quiet_call (HZ.out _ ?_); exact inferInstance)
      | (go_at_call_of 37 (ptr px); refine quiet_call (HX.out _ ?_); exact inferInstance)
      | (go_at_call_of 37 (ptr py); refine quiet_call (HY.out _ ?_); exact inferInstance)))
    refine wpQuiet_nil ?_
    rintro w14 ⟨s, rfl⟩
    go_wp2
    go_ret
    refine ⟨?_, Mod.sub (m := s.mod) S⟩
    have e : (30000 - (fx.bytes.length : Int) - (30000 - (fy.bytes.length : Int)) = (fy.bytes.length : Int) - fx.bytes.length) := by omega
    simp [e]
theorem filesKeep_walk (a b : ByteArray) (k1 k2 : Nat) (w w0 : World) (S : Asn) [m : Mod w w0 S] {q : Prop} (_ : q) (hk : k1 < 65536 ∧ k2 < 65536) (hs : a.size ≤ reachBytes ∧ b.size ≤ reachBytes) :
    Calls Tryd.prog 12 #[.agg #[.string a, .string b], .agg #[.int .u16 (k1 : Int), .int .u16 (k2 : Int)]] w fun e w' => e = .returned (.bool true) ∧ Mod w' w0 S := by
  unfold reachBytes at hs
  exact filesKeep_run a b k1 k2 w w0 S (by omega) (by omega) hk.1 hk.2
end Go.Proofs.YtabekogiaobnfaaDoor
