/- The walk of FilesApart: it returns true and changes nothing that was there; no condition. -/
import Derived.Test.YtabekogiaobnfaaDoorLeft
import Derived.Test.YtabekogiaobnfaaDoorArgs
import Derived.Deep.QuietTactic
import Derived.BigQuiet
import Derived.Deep.LoopGhost
namespace Go.Proofs.YtabekogiaobnfaaDoor
open Go.RowKit Go.Sl
attribute [local go_sem] cell_of frozen_of zero_names conv_sb
theorem ok_one : nameOk ⟨#[111, 110, 101]⟩ = true := by rw [nameOk_eq]; decide
theorem ok_other : nameOk ⟨#[111, 116, 104, 101, 114]⟩ = true := by rw [nameOk_eq]; decide
theorem ne_one : (⟨#[111, 110, 101]⟩ : ByteArray) ≠ ⟨#[111, 116, 104, 101, 114]⟩ := by decide
theorem left_pairS {n : Nat} {a b : ByteArray} {g h : Nat} {f f' : FileSt} (keep : Nat) (hg : h ≠ g) : ((namesLeft (pair n a g f b h f' [(a, g), (b, h)]) false).map fun q => (q.1, keptOf (pair n a g f b h f' [(a, g), (b, h)]) keep q.2)) = [(a, kept keep f), (b, kept keep f')] := by
  show [(a, keptOf _ keep g), (b, keptOf _ keep h)] = _
  simp [keptOf, pair, fget, hg]
theorem sizes_take_succ (xs : List ByteArray) (k : Nat) (h : k < xs.length) : sizes (xs.take (k + 1)) = sizes (xs.take k) + xs[k].size := by
  rw [List.take_succ_eq_append_getElem h, sizes_append]; simp [sizes]
theorem sizes_take_le (xs : List ByteArray) (k : Nat) : sizes (xs.take k) ≤ sizes xs := by
  have := sizes_append (xs.take k) (xs.drop k)
  rw [List.take_append_drop] at this; omega
theorem kept_text (a b : ByteArray) (keep : Nat) : (⟨((kept keep ⟨a.data.toList ++ b.data.toList, a.data.toList.length⟩).bytes).toArray⟩ : ByteArray).toList = (a ++ b.extract 0 (min (keep : Int) (b.size : Int)).toNat).toList := by
  have e : (min (keep : Int) (b.size : Int)).toNat = min keep b.size := by omega
  rw [e, ByteArray.toList_eq, ByteArray.toList_eq, ByteArray.data_append, Array.toList_append, ByteArray.data_extract, Array.toList_extract]
  simp only [kept, List.length_append, List.extract_eq_take_drop, List.drop_zero, Nat.sub_zero, size_toList]
  rw [List.take_append, List.take_of_length_le (by rw [size_toList]; omega), size_toList]
  congr 2; omega
set_option maxRecDepth 6000 in
set_option maxHeartbeats 4000000 in
theorem filesApart_run (a b : ByteArray) (B : Option Addr) (n c : Nat) (xs : List ByteArray) (keep : Nat) (w w0 : World) (S : Asn) [m : Mod w w0 S] (r : Reads S B n (texts xs)) (hl : xs.length = n) (ha : a.size ≤ 4611686018427387903) (hb : b.size ≤ 4611686018427387903) (hn : n ≤ 4611686018427387903) (hxs : ∀ s ∈ xs, s.size ≤ 4611686018427387903) (hk : keep < 256) :
    Calls Tryd.prog 11 #[.agg #[.string a, .string b], .slice B n c, .int .u8 (keep : Int)] w fun e w' => e = .returned (.bool true) ∧ Mod w' w0 S := by
  obtain ⟨t1, t2⟩ := textsSize_gt xs n
  have HT := Lib.hid t2
  clear t2
  by_cases hbig : (5000 : Int) < (a.size : Int) + (b.size : Int)
  · go_enter Tryd.func11, Tryd.ntmps11
    go_wp2_with first
      | (go_at_call 33; refine (alive5_spec _ w0 _ inferInstance).mono ?_; rintro e w1 ⟨rfl, _m1⟩)
    go_ret
    exact ⟨rfl, Mod.sub S⟩
  by_cases hlen : 30 < n
  · go_enter Tryd.func11, Tryd.ntmps11
    go_wp2_with first
      | (go_at_call 33; refine (alive5_spec _ w0 _ inferInstance).mono ?_; rintro e w1 ⟨rfl, _m1⟩)
    go_ret
    exact ⟨rfl, Mod.sub S⟩
  by_cases hts : 10000 < textsSize n xs
  · go_enter Tryd.func11, Tryd.ntmps11
    go_wp2_with first
      | (go_at_call 33; refine (alive5_spec _ w0 _ inferInstance).mono ?_; rintro e w1 ⟨rfl, _m1⟩)
      | (go_at_call 34; refine (textsSize_spec B n c xs _ w0 _ _m1 inferInstance (by omega) (fun s hs => Nat.le_trans (hxs s hs) (by omega))).mono ?_; rintro e w2 ⟨rfl, _m2⟩)
    go_ret
    exact ⟨rfl, Mod.sub S⟩
  · have hsz : n + sizes xs ≤ 10000 := by have := HT.out (by omega); omega
    go_enter Tryd.func11, Tryd.ntmps11
    go_wp2_with first
      | (go_at_call 33; refine (alive5_spec _ w0 _ inferInstance).mono ?_; rintro e w1 ⟨rfl, _m1⟩)
      | (go_at_call 34; refine (textsSize_spec B n c xs _ w0 _ _m1 inferInstance (by omega) (fun s hs => Nat.le_trans (hxs s hs) (by omega))).mono ?_; rintro e w2 ⟨rfl, _m2⟩)
      | (go_at_call 35; refine (new_ok 30000 _ w0 _ inferInstance (by omega) (by omega)).mono ?_; rintro e w3 ⟨p, rfl, _m3⟩)
    have flag := True.intro
    go_wp2_with first
      | (go_at_call 28; clear flag; refine (create_ok p (newDisk 30000) ⟨#[111, 110, 101]⟩ _ w0 _ _ inferInstance inferInstance (by decide) ok_one rfl (by decide)).mono ?_; rintro e w4 ⟨g, rfl, _, _m4⟩; rw [created_one] at _m4; try simp only [emp_sep] at _m4)
    have flag := True.intro
    go_wp2_with first
      | (go_at_call 28; clear flag; refine (create_ok p (one 30000 ⟨#[111, 110, 101]⟩ g ⟨[], 0⟩ []) ⟨#[111, 116, 104, 101, 114]⟩ _ w0 _ _ inferInstance inferInstance (by decide) ok_other (mget_ne _ ne_one) (by simp [one])).mono ?_; rintro e w5 ⟨h, rfl, hf, _m5⟩; have hgh := fresh_one hf; clear hf; rw [created_pair ne_one] at _m5; try simp only [emp_sep] at _m5)
    have flag := True.intro
    go_wp2_with first
      | (go_at_call 29; clear flag; refine (append_str p (pair 30000 ⟨#[111, 110, 101]⟩ g ⟨[], 0⟩ ⟨#[111, 116, 104, 101, 114]⟩ h ⟨[], 0⟩ []) ⟨#[111, 110, 101]⟩ _ w0 _ _ inferInstance inferInstance (by decide) _ _ a g _ ok_one mget_pair1 (fget_pair1 hgh) (by rw [left_pair hgh]; simp; omega) (by simp; omega)).mono ?_; rintro e w6 ⟨rfl, _m6⟩; rw [put_pair1 hgh, List.nil_append] at _m6; try simp only [emp_sep] at _m6)
    have flag := True.intro
    go_wp2_with first
      | (go_at_call 38; clear flag; refine (sync_some p (pair 30000 ⟨#[111, 110, 101]⟩ g ⟨a.data.toList, 0⟩ ⟨#[111, 116, 104, 101, 114]⟩ h ⟨[], 0⟩ []) ⟨#[111, 110, 101]⟩ _ w0 _ _ inferInstance inferInstance (by decide) g _ ok_one mget_pair1 (fget_pair1 hgh)).mono ?_; rintro e w7 ⟨rfl, _m7⟩; rw [put_pair1 hgh] at _m7; try simp only [emp_sep] at _m7)
    have flag := True.intro
    go_wp2_with first
      | (go_at_call 29; clear flag; refine (append_str p (pair 30000 ⟨#[111, 110, 101]⟩ g ⟨a.data.toList, a.data.toList.length⟩ ⟨#[111, 116, 104, 101, 114]⟩ h ⟨[], 0⟩ []) ⟨#[111, 110, 101]⟩ _ w0 _ _ inferInstance inferInstance (by decide) _ _ b g _ ok_one mget_pair1 (fget_pair1 hgh) (by rw [left_pair hgh]; simp only [size_toList, List.length_nil]; omega) (by simp only [size_toList]; omega)).mono ?_; rintro e w8 ⟨rfl, _m8⟩; rw [put_pair1 hgh] at _m8; try simp only [emp_sep] at _m8)
    have flag := True.intro
    go_wp2_with first
      | (go_at_call 31; clear flag; refine (names_spec p (pair 30000 ⟨#[111, 110, 101]⟩ g ⟨a.data.toList ++ b.data.toList, a.data.toList.length⟩ ⟨#[111, 116, 104, 101, 114]⟩ h ⟨[], 0⟩ []) _ w0 _ _ inferInstance inferInstance).mono ?_; rintro e w9 ⟨rfl, _m9⟩; rw [names_pair] at _m9; try simp only [emp_sep] at _m9)
    have flag := True.intro
    go_wp2_with first
      | (go_at_call 32; clear flag; refine (fail_left p (pair 30000 ⟨#[111, 110, 101]⟩ g ⟨a.data.toList ++ b.data.toList, a.data.toList.length⟩ ⟨#[111, 116, 104, 101, 114]⟩ h ⟨[], 0⟩ [(⟨#[111, 110, 101]⟩, g), (⟨#[111, 116, 104, 101, 114]⟩, h)]) _ w0 _ _ inferInstance inferInstance keep false (by omega) _ rfl).mono ?_; rintro e w10 ⟨px, Dx, rfl, hDx, _m10⟩; try simp only [emp_sep] at _m10)
    have hxa : allOf Dx ⟨#[111, 110, 101]⟩ = (kept keep ⟨a.data.toList ++ b.data.toList, a.data.toList.length⟩).bytes := by
      rw [hDx.all (g := g) ok_one (by simp [namesLeft, pair]), keptOf_some (fget_pair1 hgh)]
    have Hxa := Lib.hid hxa
    clear hxa hDx
    obtain ⟨G, m11, rG, sG, hG⟩ : ∃ G, Mod w10 w0 (diskA p (pair 30000 ⟨#[111, 110, 101]⟩ g ⟨a.data.toList ++ b.data.toList, a.data.toList.length⟩ ⟨#[111, 116, 104, 101, 114]⟩ h ⟨[], 0⟩ [(⟨#[111, 110, 101]⟩, g), (⟨#[111, 116, 104, 101, 114]⟩, h)]) * (diskA px Dx * G)) ∧ Reads G B n (texts xs) ∧ Sub G S ∧ Has G w.heap.size (.cells #[.string a, .string b] 70 (0, 0)) := ⟨_, swap_two _m10, inferInstance, inferInstance, inferInstance⟩
    clear _m1 _m2 _m3 _m4 _m5 _m6 _m7 _m8 _m9 _m10
    have Hl := Lib.hid hl
    go_loopg [11] n (fun gk i wr => ∃ (k : Nat) (O : List UInt8) (s : Nat), k ≤ n ∧ gk = n - k ∧ i = .int .i64 (k : Int) ∧ O.length = sizes (xs.take k) ∧ Mod wr w0 (diskA p (pair 30000 ⟨#[111, 110, 101]⟩ g ⟨a.data.toList ++ b.data.toList, a.data.toList.length⟩ ⟨#[111, 116, 104, 101, 114]⟩ h ⟨O, s⟩ [(⟨#[111, 110, 101]⟩, g), (⟨#[111, 116, 104, 101, 114]⟩, h)]) * (diskA px Dx * G)))
    case atStart => exact ⟨0, [], 0, Nat.zero_le _, rfl, rfl, rfl, m11⟩
    case round =>
      obtain ⟨k, O, s, hkn, hgk, rfl, hO, m12⟩ := hrel
      have hOl := sizes_take_le xs k
      by_cases hlt : k < n
      · obtain ⟨b1, o1, rfl, hc1⟩ := reads_text (B := B) (n := n) (l := xs) m12 inferInstance (by omega)
        have hx := hc1 k (by omega)
        have hki : (k : Int) < (n : Int) := by omega
        have hsucc := sizes_take_succ xs k (by omega)
        have hOl2 := sizes_take_le xs (k + 1)
        clear hc1
        generalize xs[k] = x at *
        have flag := True.intro
        go_wp2_with first
          | (go_at_call 29; clear flag; refine (append_str p (pair 30000 ⟨#[111, 110, 101]⟩ g ⟨a.data.toList ++ b.data.toList, a.data.toList.length⟩ ⟨#[111, 116, 104, 101, 114]⟩ h ⟨O, s⟩ [(⟨#[111, 110, 101]⟩, g), (⟨#[111, 116, 104, 101, 114]⟩, h)]) ⟨#[111, 116, 104, 101, 114]⟩ _ w0 _ _ inferInstance inferInstance (by decide) _ _ x h _ ok_other (mget_pair2 ne_one) fget_pair2 (by rw [left_pair hgh]; simp only [size_toList, List.length_append]; omega) (by simp only [hO]; omega)).mono ?_; rintro e w13 ⟨rfl, _m13⟩; rw [put_pair2] at _m13; try simp only [emp_sep] at _m13)
          | (go_at_call 38; refine (sync_some p (pair 30000 ⟨#[111, 110, 101]⟩ g ⟨a.data.toList ++ b.data.toList, a.data.toList.length⟩ ⟨#[111, 116, 104, 101, 114]⟩ h ⟨O ++ x.data.toList, s⟩ [(⟨#[111, 110, 101]⟩, g), (⟨#[111, 116, 104, 101, 114]⟩, h)]) ⟨#[111, 116, 104, 101, 114]⟩ _ w0 _ _ inferInstance inferInstance (by decide) h _ ok_other (mget_pair2 ne_one) fget_pair2).mono ?_; rintro e w14 ⟨rfl, _m14⟩; rw [put_pair2] at _m14; try simp only [emp_sep] at _m14)
        · go_roundg (n - (k + 1))
          case measure => omega
          case rel => exact ⟨k + 1, O ++ x.data.toList, _, by omega, rfl, by go_num, by rw [List.length_append, size_toList]; omega, drop_mid _m14⟩
        · go_roundg (n - (k + 1))
          case measure => omega
          case rel => exact ⟨k + 1, O ++ x.data.toList, _, by omega, rfl, by go_num, by rw [List.length_append, size_toList]; omega, drop_mid _m13⟩
      · have flag := True.intro
        go_wp2_with first
          | (go_at_call 32; clear flag; refine (fail_left p (pair 30000 ⟨#[111, 110, 101]⟩ g ⟨a.data.toList ++ b.data.toList, a.data.toList.length⟩ ⟨#[111, 116, 104, 101, 114]⟩ h ⟨O, s⟩ [(⟨#[111, 110, 101]⟩, g), (⟨#[111, 116, 104, 101, 114]⟩, h)]) _ w0 _ _ inferInstance inferInstance keep false (by omega) _ rfl).mono ?_; rintro e w15 ⟨py, Dy, rfl, hDy, _m15⟩)
        have hya : allOf Dy ⟨#[111, 110, 101]⟩ = (kept keep ⟨a.data.toList ++ b.data.toList, a.data.toList.length⟩).bytes := by
          rw [hDy.all (g := g) ok_one (by simp [namesLeft, pair]), keptOf_some (fget_pair1 hgh)]
        have Hya := Lib.hid hya
        clear hya hDy
        obtain ⟨SS, hSS, mSS⟩ : ∃ SS, SS = _ ∧ Mod _ w0 SS := ⟨_, rfl, _m15⟩
        have hh : Has SS w.heap.size (.cells #[.string a, .string b] 70 (0, 0)) := by rw [hSS]; infer_instance
        obtain ⟨Fp, tp⟩ : ∃ F, Take SS (diskA p) (pair 30000 ⟨#[111, 110, 101]⟩ g ⟨a.data.toList ++ b.data.toList, a.data.toList.length⟩ ⟨#[111, 116, 104, 101, 114]⟩ h ⟨O, s⟩ [(⟨#[111, 110, 101]⟩, g), (⟨#[111, 116, 104, 101, 114]⟩, h)]) F := ⟨_, by rw [hSS]; infer_instance⟩
        obtain ⟨Fx, tx⟩ : ∃ F, Take SS (diskA px) Dx F := ⟨_, by rw [hSS]; infer_instance⟩
        obtain ⟨Fy, ty⟩ : ∃ F, Take SS (diskA py) Dy F := ⟨_, by rw [hSS]; infer_instance⟩
        have hsub : Sub SS S := by rw [hSS]; infer_instance
        clear hSS _m15 m12 m11
        obtain ⟨K, hK⟩ : ∃ K : ByteArray, (⟨((kept keep ⟨a.data.toList ++ b.data.toList, a.data.toList.length⟩).bytes).toArray⟩ : ByteArray) = K := ⟨_, rfl⟩
        have hP : ∀ u, Mod u w0 SS → Calls Tryd.prog 36 #[ptr p, .string ⟨#[111, 110, 101]⟩] u fun e w' => e = .returned (.string (a ++ b)) ∧ Mod w' w0 SS := fun u mu => by
          have h := all_spec p (pair 30000 ⟨#[111, 110, 101]⟩ g ⟨a.data.toList ++ b.data.toList, a.data.toList.length⟩ ⟨#[111, 116, 104, 101, 114]⟩ h ⟨O, s⟩ [(⟨#[111, 110, 101]⟩, g), (⟨#[111, 116, 104, 101, 114]⟩, h)]) ⟨#[111, 110, 101]⟩ u w0 SS _ mu tp (by decide)
          rw [allOf_pair1 ok_one hgh, text_append] at h
          exact h
        have hX : ∀ u, Mod u w0 SS → Calls Tryd.prog 36 #[ptr px, .string ⟨#[111, 110, 101]⟩] u fun e w' => e = .returned (.string K) ∧ Mod w' w0 SS := fun u mu => by
          have h := all_spec px Dx ⟨#[111, 110, 101]⟩ u w0 SS _ mu tx (by decide)
          rw [Hxa.out, hK] at h
          exact h
        have hY : ∀ u, Mod u w0 SS → Calls Tryd.prog 36 #[ptr py, .string ⟨#[111, 110, 101]⟩] u fun e w' => e = .returned (.string K) ∧ Mod w' w0 SS := fun u mu => by
          have h := all_spec py Dy ⟨#[111, 110, 101]⟩ u w0 SS _ mu ty (by decide)
          rw [Hya.out, hK] at h
          exact h
        have HP := Lib.hid hP
        have HX := Lib.hid hX
        have HY := Lib.hid hY
        have HK := Lib.hid hK
        clear hP hX hY hK tp tx ty
        have := Held.some mSS
        refine wp_region_mod mSS (by kernel_rfl) (by kernel_rfl) ?_
        repeat (go_big_quiet_step (first
          | (go_at_call_of 36 (ptr p); refine quiet_call (HP.out _ ?_); exact inferInstance)
          | (go_at_call_of 36 (ptr px); refine quiet_call (HX.out _ ?_); exact inferInstance)
          | (go_at_call_of 36 (ptr py); refine quiet_call (HY.out _ ?_); exact inferInstance)))
        refine wpQuiet_nil ?_
        rintro w16 ⟨s, rfl⟩
        go_wp2
        go_ret
        refine ⟨?_, Mod.sub (m := s.mod) S⟩
        simp
        rw [← HK.out]
        exact kept_text a b keep
theorem filesApart_walk (a b : ByteArray) (B : Option Addr) (n c : Nat) (k : Int) (w w0 : World) (S : Asn) [m : Mod w w0 S] {q : Prop} (_ : q) (hk : (Lit.int .u8 k).wf = true) (hs : (a.size ≤ reachBytes ∧ b.size ≤ reachBytes) ∧ ∃ xs, xs.length = n ∧ Reads S B n (texts xs) ∧ (∀ s ∈ xs, s.size ≤ reachBytes) ∧ n ≤ 4611686018427387903) :
    Calls Tryd.prog 11 #[.agg #[.string a, .string b], .slice B n c, .int .u8 k] w fun e w' => e = .returned (.bool true) ∧ Mod w' w0 S := by
  obtain ⟨j, rfl, hj⟩ := wf_u8 hk
  obtain ⟨⟨h1, h2⟩, xs, hl, hr, hx, hn⟩ := hs
  unfold reachBytes at h1 h2 hx
  exact filesApart_run a b B n c xs j w w0 S hr hl (by omega) (by omega) hn (fun s hs => Nat.le_trans (hx s hs) (by omega)) hj
end Go.Proofs.YtabekogiaobnfaaDoor
