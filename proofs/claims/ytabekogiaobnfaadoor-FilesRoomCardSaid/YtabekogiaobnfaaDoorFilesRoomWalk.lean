/- The walk of FilesRoom: it returns true and changes nothing that was there; no condition. -/
import Derived.Test.YtabekogiaobnfaaDoorLeft
import Derived.Test.YtabekogiaobnfaaDoorArgs
import Derived.Deep.QuietTactic
import Derived.BigQuiet
import Derived.Deep.LoopGhost
import Derived.Deep.RegionHeld3
namespace Go.Proofs.YtabekogiaobnfaaDoor
open Go.RowKit Go.Sl
attribute [local go_sem] cell_of frozen_of zero_names conv_sb make_bytes
/-- so many bytes that are nothing -/
def zf (k : Nat) : FileSt := ⟨List.replicate k 0, 0⟩
theorem zf_len (k : Nat) : (zf k).bytes.length = k := by simp [zf]
abbrev n0 : ByteArray := ⟨#[48]⟩
abbrev n1 : ByteArray := ⟨#[49]⟩
abbrev n2 : ByteArray := ⟨#[50]⟩
theorem ok_n0 : nameOk n0 = true := by rw [nameOk_eq]; decide
theorem ok_n1 : nameOk n1 = true := by rw [nameOk_eq]; decide
theorem ok_n2 : nameOk n2 = true := by rw [nameOk_eq]; decide
theorem n01 : n0 ≠ n1 := by decide
theorem n02 : n0 ≠ n2 := by decide
theorem n12 : n1 ≠ n2 := by decide
/-- A disk with three files. -/
def trio (n g0 g1 g2 h0 h1 h2 : Nat) : DiskSt := ⟨n, [(n0, g0), (n1, g1), (n2, g2)], [], [(g2, zf h2), (g1, zf h1), (g0, zf h0)]⟩
section
variable {n g0 g1 g2 h0 h1 h2 : Nat}
theorem trio_made : created (pair n n0 g0 ⟨[], 0⟩ n1 g1 ⟨[], 0⟩ []) n2 g2 = trio n g0 g1 g2 0 0 0 := by
  simp [created, pair, trio, mput, zf]
theorem trio_ids (hf : fget (pair n n0 g0 ⟨[], 0⟩ n1 g1 ⟨[], 0⟩ []).files g2 = none) : g2 ≠ g1 ∧ g2 ≠ g0 := by
  simp only [pair, fget] at hf
  constructor
  · intro e; subst e; simp at hf
  · intro e; subst e; by_cases h : g1 = g2 <;> simp [h] at hf
theorem trio_get0 : mget (trio n g0 g1 g2 h0 h1 h2).now n0 = some g0 := by simp [trio, mget]
theorem trio_get1 : mget (trio n g0 g1 g2 h0 h1 h2).now n1 = some g1 := by simp [trio, mget]
theorem trio_get2 : mget (trio n g0 g1 g2 h0 h1 h2).now n2 = some g2 := by simp [trio, mget]
variable (d10 : g1 ≠ g0) (d20 : g2 ≠ g0) (d21 : g2 ≠ g1)
include d10 d20 in
theorem trio_file0 : fget (trio n g0 g1 g2 h0 h1 h2).files g0 = some (zf h0) := by simp [trio, fget, d10, d20]
include d21 in
theorem trio_file1 : fget (trio n g0 g1 g2 h0 h1 h2).files g1 = some (zf h1) := by simp [trio, fget, d21]
theorem trio_file2 : fget (trio n g0 g1 g2 h0 h1 h2).files g2 = some (zf h2) := by simp [trio, fget]
theorem zf_more (k l : Nat) : (⟨(zf k).bytes ++ List.replicate l 0, (zf k).sure⟩ : FileSt) = zf (k + l) := by simp [zf, List.replicate_append_replicate]
include d10 d20 in
theorem trio_put0 (l : Nat) : ({ trio n g0 g1 g2 h0 h1 h2 with files := fset (trio n g0 g1 g2 h0 h1 h2).files g0 ⟨(zf h0).bytes ++ List.replicate l 0, (zf h0).sure⟩ } : DiskSt) = trio n g0 g1 g2 (h0 + l) h1 h2 := by rw [zf_more]; simp [trio, fset, d10, d20]
include d21 in
theorem trio_put1 (l : Nat) : ({ trio n g0 g1 g2 h0 h1 h2 with files := fset (trio n g0 g1 g2 h0 h1 h2).files g1 ⟨(zf h1).bytes ++ List.replicate l 0, (zf h1).sure⟩ } : DiskSt) = trio n g0 g1 g2 h0 (h1 + l) h2 := by rw [zf_more]; simp [trio, fset, d21]
theorem trio_put2 (l : Nat) : ({ trio n g0 g1 g2 h0 h1 h2 with files := fset (trio n g0 g1 g2 h0 h1 h2).files g2 ⟨(zf h2).bytes ++ List.replicate l 0, (zf h2).sure⟩ } : DiskSt) = trio n g0 g1 g2 h0 h1 (h2 + l) := by rw [zf_more]; simp [trio, fset]
include d10 d20 d21 in
theorem trio_left : leftOf (trio n g0 g1 g2 h0 h1 h2) = n - (h0 + (h1 + h2)) := by simp [leftOf, trio, total, fget, d10, d20, d21, zf_len]
include d10 d20 in
theorem trio_less : leftOf { trio n g0 g1 g2 h0 h1 h2 with now := mdel (trio n g0 g1 g2 h0 h1 h2).now n1 } = n - (h0 + h2) := by simp [leftOf, trio, mdel, total, fget, d10, d20, n12.symm, zf_len]
end
theorem reads_made {F : Asn} {g n : Nat} {e : TypeId} {fr : Nat × Nat} [h : Has F g (.cells (madeCells #[.int .u8 0] n) e fr)] : Reads F (some ⟨g, 0, none⟩) n (u8s (List.replicate n 0)) := by
  refine reads_blk (cs := madeCells #[.int .u8 0] n) (e := e) (fr := fr) ?_ (by simp [u8s])
  apply List.ext_getElem
  · simp [madeCells, u8s]
  · intro i h1 h2
    simp [madeCells, u8s, Nat.mod_one]
theorem wrap64_small (n : Int) (h0 : -9223372036854775808 ≤ n) (h1 : n < 9223372036854775808) : IntKind.i64.wrap n = n := by
  simp [IntKind.wrap, IntKind.bits, IntKind.signed]
  split <;> omega
set_option maxRecDepth 6000 in
set_option maxHeartbeats 4000000 in
theorem filesRoom_run (size : Nat) (B : Option Addr) (n c : Nat) (xs : List Nat) (w w0 : World) (S : Asn) [m : Mod w w0 S] (r : Reads S B n (u16s xs)) (hl : xs.length = n) (hn : n ≤ 9223372036854775807) (hx : ∀ x ∈ xs, x < 65536) (hs : size < 65536) :
    Calls Tryd.prog 15 #[.int .u16 (size : Int), .slice B n c] w fun e w' => e = .returned (.bool true) ∧ Mod w' w0 S := by
  by_cases hlen : 60 < n
  · go_enter Tryd.func15, Tryd.ntmps15
    go_wp2_with first
      | (go_at_call 33; refine (alive5_spec _ w0 _ inferInstance).mono ?_; rintro e w1 ⟨rfl, _m1⟩)
    go_ret
    exact ⟨rfl, Mod.sub S⟩
  · obtain ⟨N, hN⟩ : ∃ N : Nat, 1 + size % 10000 = N := ⟨_, rfl⟩
    have hN1 : 1 ≤ N ∧ N ≤ 10000 := by omega
    have hN2 : (1 + (size : Int) % 10000) = (N : Int) := by omega
    clear hN
    obtain ⟨hNa, hNb⟩ := hN1
    go_enter Tryd.func15, Tryd.ntmps15
    go_wp2_with first
      | (go_at_call 33; refine (alive5_spec _ w0 _ inferInstance).mono ?_; rintro e w1 ⟨rfl, _m1⟩)
      | (go_at_call 35; refine (new_ok N _ w0 _ inferInstance hNa (by omega)).mono ?_; rintro e w3 ⟨p, rfl, _m3⟩)
    have flag := True.intro
    go_wp2_with first
      | (go_at_call 28; clear flag; refine (create_ok p (newDisk N) n0 _ w0 _ _ inferInstance inferInstance (by decide) ok_n0 rfl (by simp [newDisk])).mono ?_; rintro e w4 ⟨g0, rfl, _, _m4⟩; rw [created_one] at _m4; try simp only [emp_sep] at _m4)
    have flag := True.intro
    go_wp2_with first
      | (go_at_call 28; clear flag; refine (create_ok p (one N n0 g0 ⟨[], 0⟩ []) n1 _ w0 _ _ inferInstance inferInstance (by decide) ok_n1 (mget_ne _ n01) (by simp [one])).mono ?_; rintro e w5 ⟨g1, rfl, hf, _m5⟩; have d10 := fresh_one hf; clear hf; rw [created_pair n01] at _m5; try simp only [emp_sep] at _m5)
    have flag := True.intro
    go_wp2_with first
      | (go_at_call 28; clear flag; refine (create_ok p (pair N n0 g0 ⟨[], 0⟩ n1 g1 ⟨[], 0⟩ []) n2 _ w0 _ _ inferInstance inferInstance (by decide) ok_n2 (by simp [pair, mget]) (by simp [pair])).mono ?_; rintro e w6 ⟨g2, rfl, hf, _m6⟩; obtain ⟨d21, d20⟩ := trio_ids hf; rw [trio_made] at _m6; clear hf; try simp only [emp_sep] at _m6)
    obtain ⟨G, m7, rG, sG⟩ : ∃ G, Mod (w6.alloc (.cells #[.int .i64 0, .int .i64 0, .int .i64 0] 83)) w0 (blk w6.heap.size (.cells #[.int .i64 0, .int .i64 0, .int .i64 0] 83 (0, 0)) * (diskA p (trio N g0 g1 g2 0 0 0) * G)) ∧ Reads G B n (u16s xs) ∧ Sub G S := ⟨_, inferInstance, inferInstance, inferInstance⟩
    clear _m1 _m3 _m4 _m5 _m6
    generalize w6.heap.size = hb at *
    have HX := Lib.hid hx
    clear hx
    go_loopg [9] n (fun gk i wr => ∃ (k h0 h1 h2 : Nat), k ≤ n ∧ gk = n - k ∧ i = .int .i64 (k : Int) ∧ h0 + (h1 + h2) ≤ N ∧ Mod wr w0 (blk hb (.cells #[.int .i64 (h0 : Int), .int .i64 (h1 : Int), .int .i64 (h2 : Int)] 83 (0, 0)) * (diskA p (trio N g0 g1 g2 h0 h1 h2) * G)))
    case atStart => exact ⟨0, 0, 0, 0, Nat.zero_le _, rfl, rfl, Nat.zero_le _, m7⟩
    case round =>
      obtain ⟨k, h0, h1, h2, hkn, hgk, rfl, hh, m12⟩ := hrel
      by_cases hlt : k < n
      · obtain ⟨ad, hB1, hsp, hc⟩ := reads_cell (A := B) (n := n) (xs := u16s xs) m12 inferInstance (by omega)
        obtain ⟨b1, o1, sp1⟩ := ad
        simp only at hsp
        subst hsp
        subst hB1
        have hx := hc k (.int .u16 ((xs[k] : Nat) : Int)) (by simp [hl, hlt])
        have hki : (k : Int) < (n : Int) := by omega
        have hxk := HX.out xs[k] (List.getElem_mem _)
        clear hc
        generalize xs[k] = x at *
        obtain ⟨LL, hLL⟩ : ∃ LL, x % 2000 = LL := ⟨_, rfl⟩
        obtain ⟨kk, hkk⟩ : ∃ kk, x % 3 = kk := ⟨_, rfl⟩
        have hLL1 : LL < 2000 := by omega
        have hLL2 : ((x : Int) % 2000) = (LL : Int) := by omega
        have hkk1 : kk = 0 ∨ kk = 1 ∨ kk = 2 := by omega
        have hkk2 : ((x : Int) % 3) = (kk : Int) := by omega
        clear hLL hkk
        have hm0 : (0 : Int) ≤ (LL : Int) := by omega
        have hm1 : (LL : Int) ≤ 281474976710656 := by omega
        rcases hkk1 with rfl | rfl | rfl
        · have hnm : (⟨#[48, 49, 50]⟩ : ByteArray).extract 0 1 = n0 := by decide
          by_cases hfit : LL + (h0 + (h1 + h2)) ≤ N
          · have flag := True.intro
            go_wp2_with first
              | (go_at_call 29; clear flag; refine (append_len p (trio N g0 g1 g2 h0 h1 h2) n0 _ w0 _ _ inferInstance inferInstance (by decide) _ LL _ (List.replicate LL 0) (by simp) (r := reads_made) g0 (zf h0) ok_n0 trio_get0 (trio_file0 d10 d20) (by rw [trio_left d10 d20 d21]; omega) (by rw [zf_len]; omega)).mono ?_; rintro e w8 ⟨rfl, _m8⟩; rw [trio_put0 d10 d20] at _m8)
            have flag := True.intro
            go_wp2_with first
              | (go_at_call 26; clear flag; refine (size_some p (trio N g0 g1 g2 (h0 + LL) h1 h2) n0 g0 _ _ w0 _ _ inferInstance inferInstance (by decide) ok_n0 trio_get0 (trio_file0 d10 d20)).mono ?_; rw [zf_len]; rintro e w9 ⟨rfl, _m9⟩)
            have mA : Mod _ w0 (blk hb (.cells #[.int .i64 ((h0 : Int) + (LL : Int)), .int .i64 (h1 : Int), .int .i64 (h2 : Int)] 83 (0, 0)) * (diskA p (trio N g0 g1 g2 (h0 + LL) h1 h2) * G)) := repack (blk hb) (diskA p) _m9
            obtain ⟨SS, hSS, mSS⟩ : ∃ SS, SS = _ ∧ Mod _ w0 SS := ⟨_, rfl, mA⟩
            have hh : Has SS hb (.cells #[.int .i64 ((h0 : Int) + (LL : Int)), .int .i64 (h1 : Int), .int .i64 (h2 : Int)] 83 (0, 0)) := by rw [hSS]; infer_instance
            obtain ⟨Fp, tp⟩ : ∃ F, Take SS (diskA p) (trio N g0 g1 g2 (h0 + LL) h1 h2) F := ⟨_, by rw [hSS]; infer_instance⟩
            have hP : ∀ u, Mod u w0 SS → Calls Tryd.prog 37 #[ptr p] u fun e w' => e = .returned (.int .i64 ((N : Int) - ((h0 : Int) + (LL : Int)) - (h1 : Int) - (h2 : Int))) ∧ Mod w' w0 SS := fun u mu => by
              have h := left_spec p (trio N g0 g1 g2 (h0 + LL) h1 h2) u w0 SS _ mu tp
              have e : ((leftOf (trio N g0 g1 g2 (h0 + LL) h1 h2) : Nat) : Int) = ((N : Int) - ((h0 : Int) + (LL : Int)) - (h1 : Int) - (h2 : Int)) := by rw [trio_left d10 d20 d21]; omega
              rw [e] at h
              exact h
            have HP := Lib.hid hP
            have HSS := Lib.hid hSS
            clear hP hSS tp mA _m9
            have := Held.some mSS
            refine wp_region_mod mSS (by kernel_rfl) (by kernel_rfl) ?_
            repeat (go_big_quiet_step (first
              | (go_at_call 37; refine quiet_call (HP.out _ ?_); exact inferInstance)))
            refine wpQuiet_nil ?_
            rintro w10 ⟨s, rfl⟩
            have m11 := Mod.to (m := s.mod) HSS.out
            go_wp2
            go_roundg (n - (k + 1))
            case measure => omega
            case rel => exact ⟨k + 1, h0 + LL, h1, h2, by omega, rfl, by go_num, by omega, m11⟩
          · have flag := True.intro
            go_wp2_with first
              | (go_at_call 29; clear flag; refine (append_full p (trio N g0 g1 g2 h0 h1 h2) n0 _ w0 _ _ inferInstance inferInstance (by decide) _ LL _ g0 (zf h0) ok_n0 trio_get0 (trio_file0 d10 d20) (by omega) (.inl (by rw [trio_left d10 d20 d21]; omega))).mono ?_; rintro e w8 ⟨rfl, _m8⟩)
            have flag := True.intro
            go_wp2_with first
              | (go_at_call 26; clear flag; refine (size_some p (trio N g0 g1 g2 h0 h1 h2) n0 g0 _ _ w0 _ _ inferInstance inferInstance (by decide) ok_n0 trio_get0 (trio_file0 d10 d20)).mono ?_; rw [zf_len]; rintro e w9 ⟨rfl, _m9⟩)
            have mA : Mod _ w0 (blk hb (.cells #[.int .i64 (h0 : Int), .int .i64 (h1 : Int), .int .i64 (h2 : Int)] 83 (0, 0)) * (diskA p (trio N g0 g1 g2 h0 h1 h2) * G)) := repack (blk hb) (diskA p) _m9
            obtain ⟨SS, hSS, mSS⟩ : ∃ SS, SS = _ ∧ Mod _ w0 SS := ⟨_, rfl, mA⟩
            have hh : Has SS hb (.cells #[.int .i64 (h0 : Int), .int .i64 (h1 : Int), .int .i64 (h2 : Int)] 83 (0, 0)) := by rw [hSS]; infer_instance
            obtain ⟨Fp, tp⟩ : ∃ F, Take SS (diskA p) (trio N g0 g1 g2 h0 h1 h2) F := ⟨_, by rw [hSS]; infer_instance⟩
            have hP : ∀ u, Mod u w0 SS → Calls Tryd.prog 37 #[ptr p] u fun e w' => e = .returned (.int .i64 ((N : Int) - (h0 : Int) - (h1 : Int) - (h2 : Int))) ∧ Mod w' w0 SS := fun u mu => by
              have h := left_spec p (trio N g0 g1 g2 h0 h1 h2) u w0 SS _ mu tp
              have e : ((leftOf (trio N g0 g1 g2 h0 h1 h2) : Nat) : Int) = ((N : Int) - (h0 : Int) - (h1 : Int) - (h2 : Int)) := by rw [trio_left d10 d20 d21]; omega
              rw [e] at h
              exact h
            have HP := Lib.hid hP
            have HSS := Lib.hid hSS
            clear hP hSS tp mA _m9
            have := Held.some mSS
            refine wp_region_mod mSS (by kernel_rfl) (by kernel_rfl) ?_
            repeat (go_big_quiet_step (first
              | (go_at_call 37; refine quiet_call (HP.out _ ?_); exact inferInstance)))
            refine wpQuiet_nil ?_
            rintro w10 ⟨s, rfl⟩
            have m11 := Mod.to (m := s.mod) HSS.out
            go_wp2
            go_roundg (n - (k + 1))
            case measure => omega
            case rel => exact ⟨k + 1, h0, h1, h2, by omega, rfl, by go_num, by omega, m11⟩
        · have hnm : (⟨#[48, 49, 50]⟩ : ByteArray).extract 1 2 = n1 := by decide
          by_cases hfit : LL + (h0 + (h1 + h2)) ≤ N
          · have flag := True.intro
            go_wp2_with first
              | (go_at_call 29; clear flag; refine (append_len p (trio N g0 g1 g2 h0 h1 h2) n1 _ w0 _ _ inferInstance inferInstance (by decide) _ LL _ (List.replicate LL 0) (by simp) (r := reads_made) g1 (zf h1) ok_n1 trio_get1 (trio_file1 d21) (by rw [trio_left d10 d20 d21]; omega) (by rw [zf_len]; omega)).mono ?_; rintro e w8 ⟨rfl, _m8⟩; rw [trio_put1 d21] at _m8)
            have flag := True.intro
            go_wp2_with first
              | (go_at_call 26; clear flag; refine (size_some p (trio N g0 g1 g2 h0 (h1 + LL) h2) n1 g1 _ _ w0 _ _ inferInstance inferInstance (by decide) ok_n1 trio_get1 (trio_file1 d21)).mono ?_; rw [zf_len]; rintro e w9 ⟨rfl, _m9⟩)
            have mA : Mod _ w0 (blk hb (.cells #[.int .i64 (h0 : Int), .int .i64 ((h1 : Int) + (LL : Int)), .int .i64 (h2 : Int)] 83 (0, 0)) * (diskA p (trio N g0 g1 g2 h0 (h1 + LL) h2) * G)) := repack (blk hb) (diskA p) _m9
            obtain ⟨SS, hSS, mSS⟩ : ∃ SS, SS = _ ∧ Mod _ w0 SS := ⟨_, rfl, mA⟩
            have hh : Has SS hb (.cells #[.int .i64 (h0 : Int), .int .i64 ((h1 : Int) + (LL : Int)), .int .i64 (h2 : Int)] 83 (0, 0)) := by rw [hSS]; infer_instance
            obtain ⟨Fp, tp⟩ : ∃ F, Take SS (diskA p) (trio N g0 g1 g2 h0 (h1 + LL) h2) F := ⟨_, by rw [hSS]; infer_instance⟩
            have hP : ∀ u, Mod u w0 SS → Calls Tryd.prog 37 #[ptr p] u fun e w' => e = .returned (.int .i64 ((N : Int) - (h0 : Int) - ((h1 : Int) + (LL : Int)) - (h2 : Int))) ∧ Mod w' w0 SS := fun u mu => by
              have h := left_spec p (trio N g0 g1 g2 h0 (h1 + LL) h2) u w0 SS _ mu tp
              have e : ((leftOf (trio N g0 g1 g2 h0 (h1 + LL) h2) : Nat) : Int) = ((N : Int) - (h0 : Int) - ((h1 : Int) + (LL : Int)) - (h2 : Int)) := by rw [trio_left d10 d20 d21]; omega
              rw [e] at h
              exact h
            have HP := Lib.hid hP
            have HSS := Lib.hid hSS
            clear hP hSS tp mA _m9
            have := Held.some mSS
            refine wp_region_mod mSS (by kernel_rfl) (by kernel_rfl) ?_
            repeat (go_big_quiet_step (first
              | (go_at_call 37; refine quiet_call (HP.out _ ?_); exact inferInstance)))
            refine wpQuiet_nil ?_
            rintro w10 ⟨s, rfl⟩
            have m11 := Mod.to (m := s.mod) HSS.out
            go_wp2
            go_roundg (n - (k + 1))
            case measure => omega
            case rel => exact ⟨k + 1, h0, h1 + LL, h2, by omega, rfl, by go_num, by omega, m11⟩
          · have flag := True.intro
            go_wp2_with first
              | (go_at_call 29; clear flag; refine (append_full p (trio N g0 g1 g2 h0 h1 h2) n1 _ w0 _ _ inferInstance inferInstance (by decide) _ LL _ g1 (zf h1) ok_n1 trio_get1 (trio_file1 d21) (by omega) (.inl (by rw [trio_left d10 d20 d21]; omega))).mono ?_; rintro e w8 ⟨rfl, _m8⟩)
            have flag := True.intro
            go_wp2_with first
              | (go_at_call 26; clear flag; refine (size_some p (trio N g0 g1 g2 h0 h1 h2) n1 g1 _ _ w0 _ _ inferInstance inferInstance (by decide) ok_n1 trio_get1 (trio_file1 d21)).mono ?_; rw [zf_len]; rintro e w9 ⟨rfl, _m9⟩)
            have mA : Mod _ w0 (blk hb (.cells #[.int .i64 (h0 : Int), .int .i64 (h1 : Int), .int .i64 (h2 : Int)] 83 (0, 0)) * (diskA p (trio N g0 g1 g2 h0 h1 h2) * G)) := repack (blk hb) (diskA p) _m9
            obtain ⟨SS, hSS, mSS⟩ : ∃ SS, SS = _ ∧ Mod _ w0 SS := ⟨_, rfl, mA⟩
            have hh : Has SS hb (.cells #[.int .i64 (h0 : Int), .int .i64 (h1 : Int), .int .i64 (h2 : Int)] 83 (0, 0)) := by rw [hSS]; infer_instance
            obtain ⟨Fp, tp⟩ : ∃ F, Take SS (diskA p) (trio N g0 g1 g2 h0 h1 h2) F := ⟨_, by rw [hSS]; infer_instance⟩
            have hP : ∀ u, Mod u w0 SS → Calls Tryd.prog 37 #[ptr p] u fun e w' => e = .returned (.int .i64 ((N : Int) - (h0 : Int) - (h1 : Int) - (h2 : Int))) ∧ Mod w' w0 SS := fun u mu => by
              have h := left_spec p (trio N g0 g1 g2 h0 h1 h2) u w0 SS _ mu tp
              have e : ((leftOf (trio N g0 g1 g2 h0 h1 h2) : Nat) : Int) = ((N : Int) - (h0 : Int) - (h1 : Int) - (h2 : Int)) := by rw [trio_left d10 d20 d21]; omega
              rw [e] at h
              exact h
            have HP := Lib.hid hP
            have HSS := Lib.hid hSS
            clear hP hSS tp mA _m9
            have := Held.some mSS
            refine wp_region_mod mSS (by kernel_rfl) (by kernel_rfl) ?_
            repeat (go_big_quiet_step (first
              | (go_at_call 37; refine quiet_call (HP.out _ ?_); exact inferInstance)))
            refine wpQuiet_nil ?_
            rintro w10 ⟨s, rfl⟩
            have m11 := Mod.to (m := s.mod) HSS.out
            go_wp2
            go_roundg (n - (k + 1))
            case measure => omega
            case rel => exact ⟨k + 1, h0, h1, h2, by omega, rfl, by go_num, by omega, m11⟩
        · have hnm : (⟨#[48, 49, 50]⟩ : ByteArray).extract 2 3 = n2 := by decide
          by_cases hfit : LL + (h0 + (h1 + h2)) ≤ N
          · have flag := True.intro
            go_wp2_with first
              | (go_at_call 29; clear flag; refine (append_len p (trio N g0 g1 g2 h0 h1 h2) n2 _ w0 _ _ inferInstance inferInstance (by decide) _ LL _ (List.replicate LL 0) (by simp) (r := reads_made) g2 (zf h2) ok_n2 trio_get2 trio_file2 (by rw [trio_left d10 d20 d21]; omega) (by rw [zf_len]; omega)).mono ?_; rintro e w8 ⟨rfl, _m8⟩; rw [trio_put2] at _m8)
            have flag := True.intro
            go_wp2_with first
              | (go_at_call 26; clear flag; refine (size_some p (trio N g0 g1 g2 h0 h1 (h2 + LL)) n2 g2 _ _ w0 _ _ inferInstance inferInstance (by decide) ok_n2 trio_get2 trio_file2).mono ?_; rw [zf_len]; rintro e w9 ⟨rfl, _m9⟩)
            have mA : Mod _ w0 (blk hb (.cells #[.int .i64 (h0 : Int), .int .i64 (h1 : Int), .int .i64 ((h2 : Int) + (LL : Int))] 83 (0, 0)) * (diskA p (trio N g0 g1 g2 h0 h1 (h2 + LL)) * G)) := repack (blk hb) (diskA p) _m9
            obtain ⟨SS, hSS, mSS⟩ : ∃ SS, SS = _ ∧ Mod _ w0 SS := ⟨_, rfl, mA⟩
            have hh : Has SS hb (.cells #[.int .i64 (h0 : Int), .int .i64 (h1 : Int), .int .i64 ((h2 : Int) + (LL : Int))] 83 (0, 0)) := by rw [hSS]; infer_instance
            obtain ⟨Fp, tp⟩ : ∃ F, Take SS (diskA p) (trio N g0 g1 g2 h0 h1 (h2 + LL)) F := ⟨_, by rw [hSS]; infer_instance⟩
            have hP : ∀ u, Mod u w0 SS → Calls Tryd.prog 37 #[ptr p] u fun e w' => e = .returned (.int .i64 ((N : Int) - (h0 : Int) - (h1 : Int) - ((h2 : Int) + (LL : Int)))) ∧ Mod w' w0 SS := fun u mu => by
              have h := left_spec p (trio N g0 g1 g2 h0 h1 (h2 + LL)) u w0 SS _ mu tp
              have e : ((leftOf (trio N g0 g1 g2 h0 h1 (h2 + LL)) : Nat) : Int) = ((N : Int) - (h0 : Int) - (h1 : Int) - ((h2 : Int) + (LL : Int))) := by rw [trio_left d10 d20 d21]; omega
              rw [e] at h
              exact h
            have HP := Lib.hid hP
            have HSS := Lib.hid hSS
            clear hP hSS tp mA _m9
            have := Held.some mSS
            refine wp_region_mod mSS (by kernel_rfl) (by kernel_rfl) ?_
            repeat (go_big_quiet_step (first
              | (go_at_call 37; refine quiet_call (HP.out _ ?_); exact inferInstance)))
            refine wpQuiet_nil ?_
            rintro w10 ⟨s, rfl⟩
            have m11 := Mod.to (m := s.mod) HSS.out
            go_wp2
            go_roundg (n - (k + 1))
            case measure => omega
            case rel => exact ⟨k + 1, h0, h1, h2 + LL, by omega, rfl, by go_num, by omega, m11⟩
          · have flag := True.intro
            go_wp2_with first
              | (go_at_call 29; clear flag; refine (append_full p (trio N g0 g1 g2 h0 h1 h2) n2 _ w0 _ _ inferInstance inferInstance (by decide) _ LL _ g2 (zf h2) ok_n2 trio_get2 trio_file2 (by omega) (.inl (by rw [trio_left d10 d20 d21]; omega))).mono ?_; rintro e w8 ⟨rfl, _m8⟩)
            have flag := True.intro
            go_wp2_with first
              | (go_at_call 26; clear flag; refine (size_some p (trio N g0 g1 g2 h0 h1 h2) n2 g2 _ _ w0 _ _ inferInstance inferInstance (by decide) ok_n2 trio_get2 trio_file2).mono ?_; rw [zf_len]; rintro e w9 ⟨rfl, _m9⟩)
            have mA : Mod _ w0 (blk hb (.cells #[.int .i64 (h0 : Int), .int .i64 (h1 : Int), .int .i64 (h2 : Int)] 83 (0, 0)) * (diskA p (trio N g0 g1 g2 h0 h1 h2) * G)) := repack (blk hb) (diskA p) _m9
            obtain ⟨SS, hSS, mSS⟩ : ∃ SS, SS = _ ∧ Mod _ w0 SS := ⟨_, rfl, mA⟩
            have hh : Has SS hb (.cells #[.int .i64 (h0 : Int), .int .i64 (h1 : Int), .int .i64 (h2 : Int)] 83 (0, 0)) := by rw [hSS]; infer_instance
            obtain ⟨Fp, tp⟩ : ∃ F, Take SS (diskA p) (trio N g0 g1 g2 h0 h1 h2) F := ⟨_, by rw [hSS]; infer_instance⟩
            have hP : ∀ u, Mod u w0 SS → Calls Tryd.prog 37 #[ptr p] u fun e w' => e = .returned (.int .i64 ((N : Int) - (h0 : Int) - (h1 : Int) - (h2 : Int))) ∧ Mod w' w0 SS := fun u mu => by
              have h := left_spec p (trio N g0 g1 g2 h0 h1 h2) u w0 SS _ mu tp
              have e : ((leftOf (trio N g0 g1 g2 h0 h1 h2) : Nat) : Int) = ((N : Int) - (h0 : Int) - (h1 : Int) - (h2 : Int)) := by rw [trio_left d10 d20 d21]; omega
              rw [e] at h
              exact h
            have HP := Lib.hid hP
            have HSS := Lib.hid hSS
            clear hP hSS tp mA _m9
            have := Held.some mSS
            refine wp_region_mod mSS (by kernel_rfl) (by kernel_rfl) ?_
            repeat (go_big_quiet_step (first
              | (go_at_call 37; refine quiet_call (HP.out _ ?_); exact inferInstance)))
            refine wpQuiet_nil ?_
            rintro w10 ⟨s, rfl⟩
            have m11 := Mod.to (m := s.mod) HSS.out
            go_wp2
            go_roundg (n - (k + 1))
            case measure => omega
            case rel => exact ⟨k + 1, h0, h1, h2, by omega, rfl, by go_num, by omega, m11⟩
      · go_wp2_with fail
        go_region_held3 (fun u => u.cell? ⟨hb, 0, none⟩ = some (.int .i64 (h0 : Int)) ∧ u.cell? ⟨hb, 2, none⟩ = some (.int .i64 (h2 : Int))) (refine ⟨?_, ?_⟩ <;> (rw [cell_of]; rfl))
          (first
            | (go_at_call 30; refine (remove_ok p (trio N g0 g1 g2 h0 h1 h2) n1 _ w0 _ _ inferInstance inferInstance (by decide) g1 ok_n1 trio_get1).mono ?_; rintro e w8 ⟨rfl, _m8⟩)
            | (go_at_call 37; refine (left_spec p { trio N g0 g1 g2 h0 h1 h2 with now := mdel (trio N g0 g1 g2 h0 h1 h2).now n1 } _ w0 _ _ inferInstance inferInstance).mono ?_; rw [trio_less d10 d20, Int.ofNat_sub (by omega)]; rintro e w10 ⟨rfl, _m10⟩))
        all_goals go_wp2_with fail
        all_goals go_ret
        all_goals refine ⟨?_, Mod.sub S⟩
        all_goals simp
        all_goals rw [wrap64_small (N - h0 : Int) (by omega) (by omega), wrap64_small (N - h0 - h2 : Int) (by omega) (by omega)]
        all_goals omega
theorem filesRoom_walk (size : Int) (B : Option Addr) (n c : Nat) (w w0 : World) (S : Asn) [m : Mod w w0 S] (hk : (Lit.int .u16 size).wf = true) (hs : ∃ xs : List Nat, xs.length = n ∧ Reads S B n (u16s xs) ∧ (∀ x ∈ xs, x < 65536) ∧ n ≤ c ∧ c ≤ maxLen) :
    Calls Tryd.prog 15 #[.int .u16 size, .slice B n c] w fun e w' => e = .returned (.bool true) ∧ Mod w' w0 S := by
  obtain ⟨s, rfl, hs1⟩ := wf_u16 hk
  obtain ⟨xs, hl, hr, hx, h1, h2⟩ := hs
  unfold maxLen at h2
  exact filesRoom_run s B n c xs w w0 S hr hl (by omega) hx hs1
end Go.Proofs.YtabekogiaobnfaaDoor
