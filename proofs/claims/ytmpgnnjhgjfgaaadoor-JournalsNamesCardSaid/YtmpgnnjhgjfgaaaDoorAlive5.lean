/- The walk of bucketlinelaw05's alive: a contract over the small separation logic, under no condition. -/
import Derived.Test.YtmpgnnjhgjfgaaaDoorTexts
namespace Go.Proofs.YtmpgnnjhgjfgaaaDoor
open Go.RowKit Go.Sl
attribute [local go_sem] cell_of frozen_of zero_names conv_const conv_bs conv_nil make_bytes
theorem made_one {M : Made} {n : ByteArray} {f : FileSt} (h : (M.map fun q => (q.1, q.2.2)).Perm [(n, f)]) : ∃ g, M = [(n, g, f)] := by
  have h1 := List.perm_singleton.1 h
  match M, h1 with
  | [(a, g, b)], h1 => simp only [List.map_cons, List.map_nil, List.cons.injEq, Prod.mk.injEq, and_true] at h1; exact ⟨g, by rw [h1.1, h1.2]⟩
theorem ok_a : nameOk ⟨#[97]⟩ = true := by rw [nameOk_eq]; decide
theorem ok_b : nameOk ⟨#[98]⟩ = true := by rw [nameOk_eq]; decide
theorem ok_A : nameOk ⟨#[65]⟩ = false := by rw [nameOk_eq]; decide
/-- A disk with one file, sure or not at all. -/
def one (n : Nat) (name : ByteArray) (g : Nat) (f : FileSt) (s : Dir) : DiskSt := ⟨n, [(name, g)], s, [(g, f)]⟩
theorem mget_one (name : ByteArray) (g : Nat) : mget [(name, g)] name = some g := by simp [mget]
theorem mget_ne {a b : ByteArray} (g : Nat) (h : b ≠ a) : mget [(b, g)] a = none := by simp [mget, h]
theorem fget_one (g : Nat) (f : FileSt) : fget [(g, f)] g = some f := by simp [fget]
theorem fset_one (g : Nat) (f f' : FileSt) : fset [(g, f)] g f' = [(g, f')] := by simp [fset]
theorem created_one (n : Nat) (name : ByteArray) (g : Nat) : created (newDisk n) name g = one n name g ⟨[], 0⟩ [] := by simp [created, newDisk, one, mput]
theorem left_one (n : Nat) (name : ByteArray) (g : Nat) (f : FileSt) (s : Dir) : leftOf (one n name g f s) = n - f.bytes.length := by simp [leftOf, one, total, fget]
theorem renamed_one (n : Nat) (a b : ByteArray) (g : Nat) (f : FileSt) (s : Dir) : renamed (one n a g f s) a b g = one n b g f s := by simp [renamed, one, mdel, mput]
theorem list_one (n : Nat) (name : ByteArray) (g : Nat) (f : FileSt) (s : Dir) : listOf (one n name g f s) = [name.data.toList] := by simp [listOf, one]
theorem fileAt_one (n : Nat) (name : ByteArray) (g : Nat) (f : FileSt) (s : Dir) (h : nameOk name = true) : fileAt (one n name g f s) name = some f := by simp [fileAt, h, one, mget_one, fget_one]
theorem allOf_one (n : Nat) (name : ByteArray) (g : Nat) (f : FileSt) (s : Dir) (h : nameOk name = true) : allOf (one n name g f s) name = f.bytes := by simp [allOf, fileAt_one n name g f s h]
theorem keptOf_one (n : Nat) (name : ByteArray) (g : Nat) (f : FileSt) (s : Dir) (keep : Nat) : keptOf (one n name g f s) keep g = kept keep f := by simp [keptOf, one, fget_one]
theorem dir_one (a : ByteArray) (g : Nat) (f : FileSt) (n : Nat) : (⟨n, Made.dir [(a, g, f)], Made.dir [(a, g, f)], Made.tab [(a, g, f)]⟩ : DiskSt) = one n a g f [(a, g)] := rfl
theorem texts_enc (s : ByteArray) : (List.map Go.Proofs.encStr [s.data.toList]) = texts [s] := by simp [Go.Proofs.encStr]
theorem append_one (n : Nat) (name : ByteArray) (g : Nat) (f f' : FileSt) (s : Dir) : ({ one n name g f s with files := fset (one n name g f s).files g f' } : DiskSt) = one n name g f' s := by simp [one, fset_one]
theorem names_one (n : Nat) (name : ByteArray) (g : Nat) (f : FileSt) (s : Dir) : ({ one n name g f s with sure := (one n name g f s).now } : DiskSt) = one n name g f [(name, g)] := rfl
theorem ok_ab : (nameOk ⟨#[97]⟩ && nameOk ⟨#[98]⟩) = true := by rw [ok_a, ok_b]; rfl
theorem fail_one (p n : Nat) (name : ByteArray) (g : Nat) (f : FileSt) (s : Dir) (w w0 : World) (S F : Asn) (m : Mod w w0 S) (t : Take S (diskA p) (one n name g f s) F) (keep : Nat) (b : Bool) (hk : keep ≤ 9223372036854775807) (name2 : ByteArray) (hl : namesLeft (one n name g f s) b = [(name2, g)]) (f2 : FileSt) (hf : kept keep f = f2) (k : Int) (hki : k = keep) :
    Calls Tryd.prog 23 #[.pointer (some ⟨p, 0, none⟩), .int .i64 k, .bool b] w fun e w' => ∃ p' g', e = .returned (.tuple #[ptr p', .int .i64 0]) ∧ Mod w' w0 (diskA p' (one n name2 g' f2 [(name2, g')]) * S) := by
  subst hki
  refine (fail_ok p (one n name g f s) w w0 S F m t keep b hk).mono ?_
  rintro e w' ⟨p', M, rfl, hM, _, _, m'⟩
  rw [hl] at hM
  simp only [List.map_cons, List.map_nil, keptOf_one, hf] at hM
  obtain ⟨g', rfl⟩ := made_one hM
  exact ⟨p', g', rfl, m'⟩
set_option maxRecDepth 4000 in
set_option maxHeartbeats 1000000 in
theorem alive5_spec (w w0 : World) (S : Asn) (m : Mod w w0 S) : Calls Tryd.prog 24 #[] w fun e w' => e = .returned (.bool true) ∧ Mod w' w0 S := by
  go_enter Tryd.func24, Tryd.ntmps24
  go_wp2_with first
    | (go_at_call 26; refine (new_ok 10 _ w0 _ inferInstance (by omega) (by omega)).mono ?_; rintro e w1 ⟨p, rfl, _m1⟩)
    | (go_at_call 18; refine (create_ok p (newDisk 10) ⟨#[97]⟩ _ w0 _ _ inferInstance inferInstance (by decide) ok_a rfl (by decide)).mono ?_; rintro e w2 ⟨g, rfl, _, _m2⟩; rw [created_one] at _m2; simp only [emp_sep] at _m2)
    | (go_at_call 19; refine (append_ok p (one 10 ⟨#[97]⟩ g ⟨[], 0⟩ []) ⟨#[97]⟩ _ w0 _ _ inferInstance inferInstance (by decide) _ _ [97, 98, 99, 100, 101] (r := reads_blk rfl rfl) g ⟨[], 0⟩ ok_a (mget_one _ _) (fget_one _ _) (by rw [left_one]; decide) (by decide)).mono ?_; rintro e w3 ⟨rfl, _m3⟩; rw [append_one] at _m3; simp only [emp_sep] at _m3)
  go_wp2_with first
    | (go_at_call 40; refine (sync_some p (one 10 ⟨#[97]⟩ g ⟨[97, 98, 99, 100, 101], 0⟩ []) ⟨#[97]⟩ _ w0 _ _ inferInstance inferInstance (by decide) g _ ok_a (mget_one _ _) (fget_one _ _)).mono ?_; rintro e w4 ⟨rfl, _m4⟩; rw [append_one] at _m4; simp only [emp_sep] at _m4)
    | (go_at_call 19; refine (append_ok p (one 10 ⟨#[97]⟩ g ⟨[97, 98, 99, 100, 101], 5⟩ []) ⟨#[97]⟩ _ w0 _ _ inferInstance inferInstance (by decide) _ _ [102, 103] (r := reads_blk rfl rfl) g _ ok_a (mget_one _ _) (fget_one _ _) (by rw [left_one]; decide) (by decide)).mono ?_; rintro e w5 ⟨rfl, _m5⟩; rw [append_one] at _m5; simp only [emp_sep] at _m5)
    | (go_at_call 22; refine (names_spec p (one 10 ⟨#[97]⟩ g ⟨[97, 98, 99, 100, 101, 102, 103], 5⟩ []) _ w0 _ _ inferInstance inferInstance).mono ?_; rintro e w6 ⟨rfl, _m6⟩; rw [names_one] at _m6; simp only [emp_sep] at _m6)
    | (go_at_call 43; refine (rename_ok p (one 10 ⟨#[97]⟩ g ⟨[97, 98, 99, 100, 101, 102, 103], 5⟩ [(⟨#[97]⟩, g)]) ⟨#[97]⟩ _ w0 _ _ inferInstance inferInstance (by decide) ⟨#[98]⟩ (by decide) g ok_ab (mget_one _ _)).mono ?_; rintro e w7 ⟨rfl, _m7⟩; rw [renamed_one] at _m7; simp only [emp_sep] at _m7)
    | (go_at_call 39; refine (left_spec p (one 10 ⟨#[98]⟩ g ⟨[97, 98, 99, 100, 101, 102, 103], 5⟩ [(⟨#[97]⟩, g)]) _ w0 _ _ inferInstance inferInstance).mono ?_; rintro e w8 ⟨rfl, _m8⟩; rw [left_one])
  have flag := True.intro
  go_wp2_with first
    | (go_at_call 23; clear flag; refine (fail_one p 10 ⟨#[98]⟩ g ⟨[97, 98, 99, 100, 101, 102, 103], 5⟩ [(⟨#[97]⟩, g)] _ w0 _ _ inferInstance inferInstance 1 false (by decide) ⟨#[97]⟩ rfl ⟨[97, 98, 99, 100, 101, 102], 6⟩ rfl 1 rfl).mono ?_; rintro e w9 ⟨px, gx, rfl, _m9⟩)
  have flag := True.intro
  go_wp2_with first
    | (go_at_call 23; clear flag; refine (fail_one p 10 ⟨#[98]⟩ g ⟨[97, 98, 99, 100, 101, 102, 103], 5⟩ [(⟨#[97]⟩, g)] _ w0 _ _ inferInstance inferInstance 0 true (by decide) ⟨#[98]⟩ rfl ⟨[97, 98, 99, 100, 101], 5⟩ rfl 0 rfl).mono ?_; rintro e w10 ⟨py, gy, rfl, _m10⟩)
  have flag := True.intro
  go_wp2_with first
    | (go_at_call 17; clear flag; refine (read_short p (one 10 ⟨#[98]⟩ g ⟨[97, 98, 99, 100, 101, 102, 103], 5⟩ [(⟨#[97]⟩, g)]) ⟨#[98]⟩ _ w0 _ _ inferInstance inferInstance (by decide) 5 3 g _ ok_b (mget_one _ _) (fget_one _ _) (by decide) (by decide)).mono ?_; rintro e w11 ⟨rfl, _m11⟩)
  have flag := True.intro
  go_wp2_with first
    | (go_at_call 17; clear flag; refine (read_none p (one 10 ⟨#[98]⟩ g ⟨[97, 98, 99, 100, 101, 102, 103], 5⟩ [(⟨#[97]⟩, g)]) ⟨#[97]⟩ _ w0 _ _ inferInstance inferInstance (by decide) 0 0 ok_a (mget_ne _ (by decide))).mono ?_; rintro e w12 ⟨rfl, _m12⟩)
  have flag := True.intro
  go_wp2_with first
    | (go_at_call 28; clear flag; refine (list_spec px (one 10 ⟨#[97]⟩ gx ⟨[97, 98, 99, 100, 101, 102], 6⟩ [(⟨#[97]⟩, gx)]) _ w0 _ _ inferInstance inferInstance).mono ?_; rw [list_one]; rintro e w13 ⟨B1, c1, rfl, _m13⟩; rw [texts_enc] at _m13)
  have flag := True.intro
  go_wp2_with first
    | (go_at_call 30; clear flag; refine (sameTexts_spec B1 _ 1 1 c1 _ [⟨#[97]⟩] [⟨#[97]⟩] _ w0 _ inferInstance inferInstance (reads_blk rfl rfl) (by decide) (by decide)).mono ?_; rintro e w14 ⟨rfl, _m14⟩)
  have flag := True.intro
  go_wp2_with first
    | (go_at_call 29; clear flag; refine (all_spec px (one 10 ⟨#[97]⟩ gx ⟨[97, 98, 99, 100, 101, 102], 6⟩ [(⟨#[97]⟩, gx)]) ⟨#[97]⟩ _ w0 _ _ inferInstance inferInstance (by decide)).mono ?_; rw [allOf_one _ _ _ _ _ ok_a]; rintro e w15 ⟨rfl, _m15⟩)
  have flag := True.intro
  go_wp2_with first
    | (go_at_call 28; clear flag; refine (list_spec py (one 10 ⟨#[98]⟩ gy ⟨[97, 98, 99, 100, 101], 5⟩ [(⟨#[98]⟩, gy)]) _ w0 _ _ inferInstance inferInstance).mono ?_; rw [list_one]; rintro e w16 ⟨B2, c2, rfl, _m16⟩; rw [texts_enc] at _m16)
  have flag := True.intro
  go_wp2_with first
    | (go_at_call 30; clear flag; refine (sameTexts_spec B2 _ 1 1 c2 _ [⟨#[98]⟩] [⟨#[98]⟩] _ w0 _ inferInstance inferInstance (reads_blk rfl rfl) (by decide) (by decide)).mono ?_; rintro e w17 ⟨rfl, _m17⟩)
  have flag := True.intro
  go_wp2_with first
    | (go_at_call 29; clear flag; refine (all_spec py (one 10 ⟨#[98]⟩ gy ⟨[97, 98, 99, 100, 101], 5⟩ [(⟨#[98]⟩, gy)]) ⟨#[98]⟩ _ w0 _ _ inferInstance inferInstance (by decide)).mono ?_; rw [allOf_one _ _ _ _ _ ok_b]; rintro e w18 ⟨rfl, _m18⟩)
  have flag := True.intro
  go_wp2_with first
    | (go_at_call 19; clear flag; refine (append_full p (one 10 ⟨#[98]⟩ g ⟨[97, 98, 99, 100, 101, 102, 103], 5⟩ [(⟨#[97]⟩, g)]) ⟨#[98]⟩ _ w0 _ _ inferInstance inferInstance (by decide) _ 4 _ g _ ok_b (mget_one _ _) (fget_one _ _) (by decide) (.inl (by rw [left_one]; decide))).mono ?_; rintro e w19 ⟨rfl, _m19⟩)
  have flag := True.intro
  go_wp2_with first
    | (go_at_call 18; clear flag; refine (create_arg p (one 10 ⟨#[98]⟩ g ⟨[97, 98, 99, 100, 101, 102, 103], 5⟩ [(⟨#[97]⟩, g)]) ⟨#[65]⟩ _ w0 _ _ inferInstance inferInstance (by decide) ok_A).mono ?_; rintro e w20 ⟨rfl, _m20⟩)
  have flag := True.intro
  go_wp2_with first
    | (go_at_call 18; clear flag; refine (create_there p (one 10 ⟨#[98]⟩ g ⟨[97, 98, 99, 100, 101, 102, 103], 5⟩ [(⟨#[97]⟩, g)]) ⟨#[98]⟩ _ w0 _ _ inferInstance inferInstance (by decide) g ok_b (mget_one _ _)).mono ?_; rintro e w21 ⟨rfl, _m21⟩)
  go_ret
  exact ⟨rfl, Mod.sub S⟩
end Go.Proofs.YtmpgnnjhgjfgaaaDoor
