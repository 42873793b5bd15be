/- The walk of the reference's written (bucketlineref06): a record's bytes from a place on; the conditions are in the theorem. -/
import Derived.Test.YtcakdaadbpimaaaGreatDoorRefPart
namespace Go.Proofs.YtcakdaadbpimaaaGreatDoor
open Go.RowKit Go.Sl
attribute [local go_sem] cell_of cellAt_of frozen_of
theorem r6part_int (kv : Int) (kind : UInt8) (hk : kv = (kind.toNat : Int)) (B : Option Addr) (n c : Nat) (b : List UInt8) (w w0 : World) (S : Asn) (m : Mod w w0 S) (r : Reads S B n (u8s b)) (hn : n ≤ 1000000) :
    Calls Tryz.prog 162 #[.int .u8 kv, .slice B n c] w fun e w' => ∃ A c, e = .returned (.slice A (7 + n) c) ∧ Mod w' w0 (rowA 5 1 (.slice A (7 + n) c) (7 + n) (u8s (partB kind b)) * S) := by
  subst hk; exact r6part_spec kind B n c b w w0 S m r hn
/-- What one round of written adds. -/
theorem writ_round {q nr k g : Nat} {begun : Bool} {rest out W : List UInt8} {kd : UInt8} (hgo : begun = false ∨ 0 < nr) (hrl : rest.length = nr) (hk : k = fits q rest) (hg : g = gapOf q) (hkd : kd = kindOf (!begun) (decide (k = nr))) (hW : W = out ++ toCome q begun rest) :
    W = (out ++ zeros g ++ partB kd (rest.take k)) ++ toCome (q + g + (7 + k)) true (rest.drop k) := by
  subst hk hg hkd
  rw [hW, toCome_step q begun rest (by rw [hrl]; exact hgo), hrl, show q + gapOf q + (7 + fits q rest) = q + gapOf q + 7 + fits q rest by omega]
  simp only [List.append_assoc]
set_option maxRecDepth 4000 in
set_option maxHeartbeats 8000000 in
theorem r6written_spec (p : Nat) (B : Option Addr) (n c : Nat) (rec : List UInt8) (w w0 : World) (S : Asn) (m : Mod w w0 S) (r : Reads S B n (u8s rec)) (hc : n ≤ c) (hn : n ≤ 100000) (hp : p ≤ 10000000) :
    Calls Tryz.prog 107 #[.int .i64 (p : Int), .slice B n c] w fun e w' => ∃ A' c', e = .returned (.slice A' (writ p true rec).length c') ∧ Mod w' w0 (rowA 5 1 (.slice A' (writ p true rec).length c') (writ p true rec).length (u8s (writ p true rec)) * S) := by
  have hl := reads_len m r
  rw [length_u8s] at hl
  obtain ⟨W, hW⟩ : ∃ W, writ p true rec = W := ⟨_, rfl⟩
  have hWl : W.length ≤ 15 * n + 14 := by rw [← hW, ← hl]; exact writ_length_le p rec
  have HWl := Lib.hid hWl
  have HW := Lib.hid hW
  have Hl := Lib.hid hl
  rw [hW]
  clear hW hl hWl
  go_enter Tryz.func107, Tryz.ntmps107
  go_wp2_with fail
  go_loopg [1, 5, 6] (n + 1) (fun gk vr vo vf wr => ∃ (q : Nat) (begun : Bool) (Br : Option Addr) (nr cr : Nat) (rest : List UInt8) (A : Option Addr) (no ca : Nat) (out : List UInt8), gk = nr + (if begun then 0 else 1) ∧ vr = .slice Br nr cr ∧ vo = .slice A no ca ∧ vf = .bool (!begun) ∧ nr ≤ cr ∧ nr ≤ n ∧ q = p + no ∧ no ≤ 15 * n + 14 ∧ Hid (out.length = no) ∧ Hid (rest.length = nr) ∧ Hid (W = out ++ toCome q begun rest) ∧ Reads S Br nr (u8s rest) ∧ Mod wr w0 (rowA 5 1 (.slice A no ca) no (u8s out) * S))
  case atStart => exact ⟨p, false, B, n, c, rec, none, 0, 0, [], rfl, rfl, rfl, rfl, hc, Nat.le_refl _, rfl, by omega, rfl, Hl.out, by show W = [] ++ _; rw [← HW.out]; rfl, r, row_none m⟩
  case round =>
    obtain ⟨q, begun, Br, nr, cr, rest, A, no, ca, out, hgk, rfl, rfl, rfl, hcr, hnr, hq, hno, Hol, Hrl, HWo, hr, m2⟩ := hrel
    by_cases hgo : begun = false ∨ 0 < nr
    · obtain ⟨k, hk⟩ : ∃ k, k = fits q rest := ⟨_, rfl⟩
      obtain ⟨g, hg⟩ : ∃ g, g = gapOf q := ⟨_, rfl⟩
      have hkn : k ≤ nr := by rw [hk, ← Hrl.out]; exact fits_le q rest
      have hfit : k = min nr (128 - (q + g) % 128 - 7) := by rw [hk, hg]; unfold fits; rw [Hrl.out]
      have hgap : g = if 128 - q % 128 ≤ 7 then 128 - q % 128 else 0 := hg
      have HR : Hid (∀ kd, kd = kindOf (!begun) (decide (k = nr)) → W = (out ++ zeros g ++ partB kd (rest.take k)) ++ toCome (q + g + (7 + k)) true (rest.drop k)) := fun kd hkd => writ_round hgo Hrl.out hk hg hkd HWo.out
      have hrk : Reads S Br k (u8s (rest.take k)) := by have := hr.pre k hkn; rwa [show (u8s rest).take k = u8s (rest.take k) from by simp [u8s]] at this
      have hr2 := reads_cut hr hkn hcr
      clear hk hg hr
      by_cases hgl : 128 - q % 128 ≤ 7
      · rw [if_pos hgl] at hgap
        have hgz : 128 - ((p : Int) + (no : Int)) % 128 = (g : Int) := by omega
        have hmin : min (nr : Int) 121 = (k : Int) := by omega
        have hg8 : (g : Int) < 8 := by omega
        obtain ⟨i8, hi8, hz8⟩ := u8_info
        clear hgap hfit
        cases begun
        · by_cases hw : k = nr
          · have hkd : (1 : UInt8) = kindOf (!false) (decide (k = nr)) := by rw [decide_eq_true hw]; rfl
            have HR2 := Lib.hid (HR.out 1 hkd)
            have hwb : ((k : Int) == (nr : Int)) = true := by rw [beq_iff_eq]; omega
            have Hz : Hid (nr - k = 0) := (by omega : nr - k = 0)
            clear HR hkd hgo hw
            go_wp2_with (at_builtin; refine wpList_append_zeros (v := .slice A no ca) (k := g) rfl rfl Tryz.underlying3 hi8 hz8 rfl rfl m2 rfl rfl (by unfold maxLen; omega) (by omega) ?_; intro A1 c1 w1 m3; rw [u8s_zeros] at m3; refine Hid.out ?_)
            clear m2
            refine Lib.hid ?_
            go_wp2_with fail
            refine (r6part_int _ 1 rfl Br k cr (rest.take k) _ w0 _ m3 (reads_lift inferInstance hrk) (by omega)).mono ?_
            rintro e w2 ⟨A3, c3, rfl, m4⟩
            have m5 := Mod.pull (m := m4) (rowA 5 1 (.slice A1 (no + g) c1) (no + g) (u8s (out ++ zeros g)))
            clear m4
            go_wp2_with (at_builtin; refine wpList_append (v := .slice A1 (no + g) c1) (A := A3) (k := 7 + k) (c := c3) (news := u8s (partB 1 (rest.take k))) rfl rfl m5 rfl rfl (one_u8s _) (by unfold maxLen; omega) (by omega) ?_; intro A4 c4 w4 m6; refine Hid.out ?_)
            rw [← u8s_append] at m6
            have m7 := Mod.keep (T := rowA 5 1 (.slice A4 (no + g + (7 + k)) c4) (no + g + (7 + k)) (u8s (out ++ zeros g ++ partB 1 (rest.take k))) * S) m6
            clear m5 m6 hrk
            refine Lib.hid ?_
            by_cases hck : k = cr
            · subst hck
              rw [if_pos rfl] at hr2
              rw [Hz.out] at hr2
              go_wp2_with fail
              go_roundg (0)
              case measure => (try simp at hgk ⊢); omega
              case rel =>
                refine ⟨q + g + (7 + k), true, Br, 0, 0, rest.drop k, A4, no + g + (7 + k), c4, out ++ zeros g ++ partB 1 (rest.take k), rfl, rfl, rfl, rfl, by omega, by omega, by omega, ?_, ?_, ?_, HR2.out, hr2, m7⟩
                · have h1 := congrArg List.length HR2.out
                  have h2 := HWl.out
                  simp only [List.length_append, zeros, List.length_replicate, partB_length, List.length_take, Hol.out, Hrl.out] at h1
                  omega
                · show _ = _
                  simp only [List.length_append, zeros, List.length_replicate, partB_length, List.length_take, Hol.out, Hrl.out]
                  omega
                · show _ = _
                  rw [List.length_drop, Hrl.out, Hz.out]
            · have hck2 : ¬ cr = k := fun e => hck e.symm
              rw [if_neg hck2] at hr2
              go_wp2_with fail
              go_roundg (nr - k)
              case measure => (try simp at hgk ⊢); omega
              case rel =>
                refine ⟨q + g + (7 + k), true, _, nr - k, cr - k, rest.drop k, A4, no + g + (7 + k), c4, out ++ zeros g ++ partB 1 (rest.take k), rfl, rfl, rfl, rfl, by omega, by omega, by omega, ?_, ?_, ?_, HR2.out, hr2, m7⟩
                · have h1 := congrArg List.length HR2.out
                  have h2 := HWl.out
                  simp only [List.length_append, zeros, List.length_replicate, partB_length, List.length_take, Hol.out, Hrl.out] at h1
                  omega
                · show _ = _
                  simp only [List.length_append, zeros, List.length_replicate, partB_length, List.length_take, Hol.out, Hrl.out]
                  omega
                · show _ = _
                  rw [List.length_drop, Hrl.out]
          · have hkd : (2 : UInt8) = kindOf (!false) (decide (k = nr)) := by rw [decide_eq_false hw]; rfl
            have HR2 := Lib.hid (HR.out 2 hkd)
            have hwb : ((k : Int) == (nr : Int)) = false := beq_eq_false_iff_ne.2 (by omega)
            have hck2 : ¬ cr = k := by omega
            clear HR hkd hgo hw
            go_wp2_with (at_builtin; refine wpList_append_zeros (v := .slice A no ca) (k := g) rfl rfl Tryz.underlying3 hi8 hz8 rfl rfl m2 rfl rfl (by unfold maxLen; omega) (by omega) ?_; intro A1 c1 w1 m3; rw [u8s_zeros] at m3; refine Hid.out ?_)
            clear m2
            refine Lib.hid ?_
            go_wp2_with fail
            refine (r6part_int _ 2 rfl Br k cr (rest.take k) _ w0 _ m3 (reads_lift inferInstance hrk) (by omega)).mono ?_
            rintro e w2 ⟨A3, c3, rfl, m4⟩
            have m5 := Mod.pull (m := m4) (rowA 5 1 (.slice A1 (no + g) c1) (no + g) (u8s (out ++ zeros g)))
            clear m4
            go_wp2_with (at_builtin; refine wpList_append (v := .slice A1 (no + g) c1) (A := A3) (k := 7 + k) (c := c3) (news := u8s (partB 2 (rest.take k))) rfl rfl m5 rfl rfl (one_u8s _) (by unfold maxLen; omega) (by omega) ?_; intro A4 c4 w4 m6; refine Hid.out ?_)
            rw [← u8s_append] at m6
            have m7 := Mod.keep (T := rowA 5 1 (.slice A4 (no + g + (7 + k)) c4) (no + g + (7 + k)) (u8s (out ++ zeros g ++ partB 2 (rest.take k))) * S) m6
            clear m5 m6 hrk
            refine Lib.hid ?_
            rw [if_neg hck2] at hr2
            go_wp2_with fail
            go_roundg (nr - k)
            case measure => (try simp at hgk ⊢); omega
            case rel =>
              refine ⟨q + g + (7 + k), true, _, nr - k, cr - k, rest.drop k, A4, no + g + (7 + k), c4, out ++ zeros g ++ partB 2 (rest.take k), rfl, rfl, rfl, rfl, by omega, by omega, by omega, ?_, ?_, ?_, HR2.out, hr2, m7⟩
              · have h1 := congrArg List.length HR2.out
                have h2 := HWl.out
                simp only [List.length_append, zeros, List.length_replicate, partB_length, List.length_take, Hol.out, Hrl.out] at h1
                omega
              · show _ = _
                simp only [List.length_append, zeros, List.length_replicate, partB_length, List.length_take, Hol.out, Hrl.out]
                omega
              · show _ = _
                rw [List.length_drop, Hrl.out]
        · by_cases hw : k = nr
          · have hkd : (4 : UInt8) = kindOf (!true) (decide (k = nr)) := by rw [decide_eq_true hw]; rfl
            have HR2 := Lib.hid (HR.out 4 hkd)
            have hwb : ((k : Int) == (nr : Int)) = true := by rw [beq_iff_eq]; omega
            have h0 : 0 < nr := by simpa using hgo
            have Hz : Hid (nr - k = 0) := (by omega : nr - k = 0)
            clear HR hkd hgo hw
            go_wp2_with (at_builtin; refine wpList_append_zeros (v := .slice A no ca) (k := g) rfl rfl Tryz.underlying3 hi8 hz8 rfl rfl m2 rfl rfl (by unfold maxLen; omega) (by omega) ?_; intro A1 c1 w1 m3; rw [u8s_zeros] at m3; refine Hid.out ?_)
            clear m2
            refine Lib.hid ?_
            go_wp2_with fail
            refine (r6part_int _ 4 rfl Br k cr (rest.take k) _ w0 _ m3 (reads_lift inferInstance hrk) (by omega)).mono ?_
            rintro e w2 ⟨A3, c3, rfl, m4⟩
            have m5 := Mod.pull (m := m4) (rowA 5 1 (.slice A1 (no + g) c1) (no + g) (u8s (out ++ zeros g)))
            clear m4
            go_wp2_with (at_builtin; refine wpList_append (v := .slice A1 (no + g) c1) (A := A3) (k := 7 + k) (c := c3) (news := u8s (partB 4 (rest.take k))) rfl rfl m5 rfl rfl (one_u8s _) (by unfold maxLen; omega) (by omega) ?_; intro A4 c4 w4 m6; refine Hid.out ?_)
            rw [← u8s_append] at m6
            have m7 := Mod.keep (T := rowA 5 1 (.slice A4 (no + g + (7 + k)) c4) (no + g + (7 + k)) (u8s (out ++ zeros g ++ partB 4 (rest.take k))) * S) m6
            clear m5 m6 hrk
            refine Lib.hid ?_
            by_cases hck : k = cr
            · subst hck
              rw [if_pos rfl] at hr2
              rw [Hz.out] at hr2
              go_wp2_with fail
              go_roundg (0)
              case measure => (try simp at hgk ⊢); omega
              case rel =>
                refine ⟨q + g + (7 + k), true, Br, 0, 0, rest.drop k, A4, no + g + (7 + k), c4, out ++ zeros g ++ partB 4 (rest.take k), rfl, rfl, rfl, rfl, by omega, by omega, by omega, ?_, ?_, ?_, HR2.out, hr2, m7⟩
                · have h1 := congrArg List.length HR2.out
                  have h2 := HWl.out
                  simp only [List.length_append, zeros, List.length_replicate, partB_length, List.length_take, Hol.out, Hrl.out] at h1
                  omega
                · show _ = _
                  simp only [List.length_append, zeros, List.length_replicate, partB_length, List.length_take, Hol.out, Hrl.out]
                  omega
                · show _ = _
                  rw [List.length_drop, Hrl.out, Hz.out]
            · have hck2 : ¬ cr = k := fun e => hck e.symm
              rw [if_neg hck2] at hr2
              go_wp2_with fail
              go_roundg (nr - k)
              case measure => (try simp at hgk ⊢); omega
              case rel =>
                refine ⟨q + g + (7 + k), true, _, nr - k, cr - k, rest.drop k, A4, no + g + (7 + k), c4, out ++ zeros g ++ partB 4 (rest.take k), rfl, rfl, rfl, rfl, by omega, by omega, by omega, ?_, ?_, ?_, HR2.out, hr2, m7⟩
                · have h1 := congrArg List.length HR2.out
                  have h2 := HWl.out
                  simp only [List.length_append, zeros, List.length_replicate, partB_length, List.length_take, Hol.out, Hrl.out] at h1
                  omega
                · show _ = _
                  simp only [List.length_append, zeros, List.length_replicate, partB_length, List.length_take, Hol.out, Hrl.out]
                  omega
                · show _ = _
                  rw [List.length_drop, Hrl.out]
          · have hkd : (3 : UInt8) = kindOf (!true) (decide (k = nr)) := by rw [decide_eq_false hw]; rfl
            have HR2 := Lib.hid (HR.out 3 hkd)
            have hwb : ((k : Int) == (nr : Int)) = false := beq_eq_false_iff_ne.2 (by omega)
            have h0 : 0 < nr := by simpa using hgo
            have hck2 : ¬ cr = k := by omega
            clear HR hkd hgo hw
            go_wp2_with (at_builtin; refine wpList_append_zeros (v := .slice A no ca) (k := g) rfl rfl Tryz.underlying3 hi8 hz8 rfl rfl m2 rfl rfl (by unfold maxLen; omega) (by omega) ?_; intro A1 c1 w1 m3; rw [u8s_zeros] at m3; refine Hid.out ?_)
            clear m2
            refine Lib.hid ?_
            go_wp2_with fail
            refine (r6part_int _ 3 rfl Br k cr (rest.take k) _ w0 _ m3 (reads_lift inferInstance hrk) (by omega)).mono ?_
            rintro e w2 ⟨A3, c3, rfl, m4⟩
            have m5 := Mod.pull (m := m4) (rowA 5 1 (.slice A1 (no + g) c1) (no + g) (u8s (out ++ zeros g)))
            clear m4
            go_wp2_with (at_builtin; refine wpList_append (v := .slice A1 (no + g) c1) (A := A3) (k := 7 + k) (c := c3) (news := u8s (partB 3 (rest.take k))) rfl rfl m5 rfl rfl (one_u8s _) (by unfold maxLen; omega) (by omega) ?_; intro A4 c4 w4 m6; refine Hid.out ?_)
            rw [← u8s_append] at m6
            have m7 := Mod.keep (T := rowA 5 1 (.slice A4 (no + g + (7 + k)) c4) (no + g + (7 + k)) (u8s (out ++ zeros g ++ partB 3 (rest.take k))) * S) m6
            clear m5 m6 hrk
            refine Lib.hid ?_
            rw [if_neg hck2] at hr2
            go_wp2_with fail
            go_roundg (nr - k)
            case measure => (try simp at hgk ⊢); omega
            case rel =>
              refine ⟨q + g + (7 + k), true, _, nr - k, cr - k, rest.drop k, A4, no + g + (7 + k), c4, out ++ zeros g ++ partB 3 (rest.take k), rfl, rfl, rfl, rfl, by omega, by omega, by omega, ?_, ?_, ?_, HR2.out, hr2, m7⟩
              · have h1 := congrArg List.length HR2.out
                have h2 := HWl.out
                simp only [List.length_append, zeros, List.length_replicate, partB_length, List.length_take, Hol.out, Hrl.out] at h1
                omega
              · show _ = _
                simp only [List.length_append, zeros, List.length_replicate, partB_length, List.length_take, Hol.out, Hrl.out]
                omega
              · show _ = _
                rw [List.length_drop, Hrl.out]
      · rw [if_neg hgl] at hgap
        obtain ⟨lf, hlf⟩ : ∃ lf, 128 - q % 128 = lf := ⟨_, rfl⟩
        have hgz : 128 - ((p : Int) + (no : Int)) % 128 = (lf : Int) := by omega
        have hmin : min (nr : Int) ((lf : Int) - 7) = (k : Int) := by rw [hfit, hgap]; omega
        have hlf8 : ¬ (lf : Int) < 8 := by omega
        have hlf9 : (lf : Int) ≤ 128 := by omega
        clear hfit hlf
        cases begun
        · by_cases hw : k = nr
          · have hkd : (1 : UInt8) = kindOf (!false) (decide (k = nr)) := by rw [decide_eq_true hw]; rfl
            have HR2 := Lib.hid (HR.out 1 hkd)
            have hwb : ((k : Int) == (nr : Int)) = true := by rw [beq_iff_eq]; omega
            have Hz : Hid (nr - k = 0) := (by omega : nr - k = 0)
            clear HR hkd hgo hw
            have m3 := m2
            clear m2
            go_wp2_with fail
            refine (r6part_int _ 1 rfl Br k cr (rest.take k) _ w0 _ m3 (reads_lift inferInstance hrk) (by omega)).mono ?_
            rintro e w2 ⟨A3, c3, rfl, m4⟩
            have m5 := Mod.pull (m := m4) (rowA 5 1 (.slice A no ca) (no) (u8s (out)))
            clear m4
            go_wp2_with (at_builtin; refine wpList_append (v := .slice A no ca) (A := A3) (k := 7 + k) (c := c3) (news := u8s (partB 1 (rest.take k))) rfl rfl m5 rfl rfl (one_u8s _) (by unfold maxLen; omega) (by omega) ?_; intro A4 c4 w4 m6; refine Hid.out ?_)
            rw [← u8s_append] at m6
            have m7 := Mod.keep (T := rowA 5 1 (.slice A4 (no + (7 + k)) c4) (no + (7 + k)) (u8s (out ++ partB 1 (rest.take k))) * S) m6
            clear m5 m6 hrk
            refine Lib.hid ?_
            by_cases hck : k = cr
            · subst hck
              rw [if_pos rfl] at hr2
              rw [Hz.out] at hr2
              go_wp2_with fail
              go_roundg (0)
              case measure => (try simp at hgk ⊢); omega
              case rel =>
                have hg0 : g = 0 := by omega
                have HR3 := HR2.out
                rw [hg0, show zeros 0 = [] from rfl, List.append_nil, Nat.add_zero] at HR3
                refine ⟨q + (7 + k), true, Br, 0, 0, rest.drop k, A4, no + (7 + k), c4, out ++ partB 1 (rest.take k), rfl, rfl, rfl, rfl, by omega, by omega, by omega, ?_, ?_, ?_, HR3, hr2, m7⟩
                · have h1 := congrArg List.length HR3
                  have h2 := HWl.out
                  simp only [List.length_append, partB_length, List.length_take, Hol.out, Hrl.out] at h1
                  omega
                · show _ = _
                  simp only [List.length_append, partB_length, List.length_take, Hol.out, Hrl.out]
                  omega
                · show _ = _
                  rw [List.length_drop, Hrl.out, Hz.out]
            · have hck2 : ¬ cr = k := fun e => hck e.symm
              rw [if_neg hck2] at hr2
              go_wp2_with fail
              go_roundg (nr - k)
              case measure => (try simp at hgk ⊢); omega
              case rel =>
                have hg0 : g = 0 := by omega
                have HR3 := HR2.out
                rw [hg0, show zeros 0 = [] from rfl, List.append_nil, Nat.add_zero] at HR3
                refine ⟨q + (7 + k), true, _, nr - k, cr - k, rest.drop k, A4, no + (7 + k), c4, out ++ partB 1 (rest.take k), rfl, rfl, rfl, rfl, by omega, by omega, by omega, ?_, ?_, ?_, HR3, hr2, m7⟩
                · have h1 := congrArg List.length HR3
                  have h2 := HWl.out
                  simp only [List.length_append, partB_length, List.length_take, Hol.out, Hrl.out] at h1
                  omega
                · show _ = _
                  simp only [List.length_append, partB_length, List.length_take, Hol.out, Hrl.out]
                  omega
                · show _ = _
                  rw [List.length_drop, Hrl.out]
          · have hkd : (2 : UInt8) = kindOf (!false) (decide (k = nr)) := by rw [decide_eq_false hw]; rfl
            have HR2 := Lib.hid (HR.out 2 hkd)
            have hwb : ((k : Int) == (nr : Int)) = false := beq_eq_false_iff_ne.2 (by omega)
            have hck2 : ¬ cr = k := by omega
            clear HR hkd hgo hw
            have m3 := m2
            clear m2
            go_wp2_with fail
            refine (r6part_int _ 2 rfl Br k cr (rest.take k) _ w0 _ m3 (reads_lift inferInstance hrk) (by omega)).mono ?_
            rintro e w2 ⟨A3, c3, rfl, m4⟩
            have m5 := Mod.pull (m := m4) (rowA 5 1 (.slice A no ca) (no) (u8s (out)))
            clear m4
            go_wp2_with (at_builtin; refine wpList_append (v := .slice A no ca) (A := A3) (k := 7 + k) (c := c3) (news := u8s (partB 2 (rest.take k))) rfl rfl m5 rfl rfl (one_u8s _) (by unfold maxLen; omega) (by omega) ?_; intro A4 c4 w4 m6; refine Hid.out ?_)
            rw [← u8s_append] at m6
            have m7 := Mod.keep (T := rowA 5 1 (.slice A4 (no + (7 + k)) c4) (no + (7 + k)) (u8s (out ++ partB 2 (rest.take k))) * S) m6
            clear m5 m6 hrk
            refine Lib.hid ?_
            rw [if_neg hck2] at hr2
            go_wp2_with fail
            go_roundg (nr - k)
            case measure => (try simp at hgk ⊢); omega
            case rel =>
              have hg0 : g = 0 := by omega
              have HR3 := HR2.out
              rw [hg0, show zeros 0 = [] from rfl, List.append_nil, Nat.add_zero] at HR3
              refine ⟨q + (7 + k), true, _, nr - k, cr - k, rest.drop k, A4, no + (7 + k), c4, out ++ partB 2 (rest.take k), rfl, rfl, rfl, rfl, by omega, by omega, by omega, ?_, ?_, ?_, HR3, hr2, m7⟩
              · have h1 := congrArg List.length HR3
                have h2 := HWl.out
                simp only [List.length_append, partB_length, List.length_take, Hol.out, Hrl.out] at h1
                omega
              · show _ = _
                simp only [List.length_append, partB_length, List.length_take, Hol.out, Hrl.out]
                omega
              · show _ = _
                rw [List.length_drop, Hrl.out]
        · by_cases hw : k = nr
          · have hkd : (4 : UInt8) = kindOf (!true) (decide (k = nr)) := by rw [decide_eq_true hw]; rfl
            have HR2 := Lib.hid (HR.out 4 hkd)
            have hwb : ((k : Int) == (nr : Int)) = true := by rw [beq_iff_eq]; omega
            have h0 : 0 < nr := by simpa using hgo
            have Hz : Hid (nr - k = 0) := (by omega : nr - k = 0)
            clear HR hkd hgo hw
            have m3 := m2
            clear m2
            go_wp2_with fail
            refine (r6part_int _ 4 rfl Br k cr (rest.take k) _ w0 _ m3 (reads_lift inferInstance hrk) (by omega)).mono ?_
            rintro e w2 ⟨A3, c3, rfl, m4⟩
            have m5 := Mod.pull (m := m4) (rowA 5 1 (.slice A no ca) (no) (u8s (out)))
            clear m4
            go_wp2_with (at_builtin; refine wpList_append (v := .slice A no ca) (A := A3) (k := 7 + k) (c := c3) (news := u8s (partB 4 (rest.take k))) rfl rfl m5 rfl rfl (one_u8s _) (by unfold maxLen; omega) (by omega) ?_; intro A4 c4 w4 m6; refine Hid.out ?_)
            rw [← u8s_append] at m6
            have m7 := Mod.keep (T := rowA 5 1 (.slice A4 (no + (7 + k)) c4) (no + (7 + k)) (u8s (out ++ partB 4 (rest.take k))) * S) m6
            clear m5 m6 hrk
            refine Lib.hid ?_
            by_cases hck : k = cr
            · subst hck
              rw [if_pos rfl] at hr2
              rw [Hz.out] at hr2
              go_wp2_with fail
              go_roundg (0)
              case measure => (try simp at hgk ⊢); omega
              case rel =>
                have hg0 : g = 0 := by omega
                have HR3 := HR2.out
                rw [hg0, show zeros 0 = [] from rfl, List.append_nil, Nat.add_zero] at HR3
                refine ⟨q + (7 + k), true, Br, 0, 0, rest.drop k, A4, no + (7 + k), c4, out ++ partB 4 (rest.take k), rfl, rfl, rfl, rfl, by omega, by omega, by omega, ?_, ?_, ?_, HR3, hr2, m7⟩
                · have h1 := congrArg List.length HR3
                  have h2 := HWl.out
                  simp only [List.length_append, partB_length, List.length_take, Hol.out, Hrl.out] at h1
                  omega
                · show _ = _
                  simp only [List.length_append, partB_length, List.length_take, Hol.out, Hrl.out]
                  omega
                · show _ = _
                  rw [List.length_drop, Hrl.out, Hz.out]
            · have hck2 : ¬ cr = k := fun e => hck e.symm
              rw [if_neg hck2] at hr2
              go_wp2_with fail
              go_roundg (nr - k)
              case measure => (try simp at hgk ⊢); omega
              case rel =>
                have hg0 : g = 0 := by omega
                have HR3 := HR2.out
                rw [hg0, show zeros 0 = [] from rfl, List.append_nil, Nat.add_zero] at HR3
                refine ⟨q + (7 + k), true, _, nr - k, cr - k, rest.drop k, A4, no + (7 + k), c4, out ++ partB 4 (rest.take k), rfl, rfl, rfl, rfl, by omega, by omega, by omega, ?_, ?_, ?_, HR3, hr2, m7⟩
                · have h1 := congrArg List.length HR3
                  have h2 := HWl.out
                  simp only [List.length_append, partB_length, List.length_take, Hol.out, Hrl.out] at h1
                  omega
                · show _ = _
                  simp only [List.length_append, partB_length, List.length_take, Hol.out, Hrl.out]
                  omega
                · show _ = _
                  rw [List.length_drop, Hrl.out]
          · have hkd : (3 : UInt8) = kindOf (!true) (decide (k = nr)) := by rw [decide_eq_false hw]; rfl
            have HR2 := Lib.hid (HR.out 3 hkd)
            have hwb : ((k : Int) == (nr : Int)) = false := beq_eq_false_iff_ne.2 (by omega)
            have h0 : 0 < nr := by simpa using hgo
            have hck2 : ¬ cr = k := by omega
            clear HR hkd hgo hw
            have m3 := m2
            clear m2
            go_wp2_with fail
            refine (r6part_int _ 3 rfl Br k cr (rest.take k) _ w0 _ m3 (reads_lift inferInstance hrk) (by omega)).mono ?_
            rintro e w2 ⟨A3, c3, rfl, m4⟩
            have m5 := Mod.pull (m := m4) (rowA 5 1 (.slice A no ca) (no) (u8s (out)))
            clear m4
            go_wp2_with (at_builtin; refine wpList_append (v := .slice A no ca) (A := A3) (k := 7 + k) (c := c3) (news := u8s (partB 3 (rest.take k))) rfl rfl m5 rfl rfl (one_u8s _) (by unfold maxLen; omega) (by omega) ?_; intro A4 c4 w4 m6; refine Hid.out ?_)
            rw [← u8s_append] at m6
            have m7 := Mod.keep (T := rowA 5 1 (.slice A4 (no + (7 + k)) c4) (no + (7 + k)) (u8s (out ++ partB 3 (rest.take k))) * S) m6
            clear m5 m6 hrk
            refine Lib.hid ?_
            rw [if_neg hck2] at hr2
            go_wp2_with fail
            go_roundg (nr - k)
            case measure => (try simp at hgk ⊢); omega
            case rel =>
              have hg0 : g = 0 := by omega
              have HR3 := HR2.out
              rw [hg0, show zeros 0 = [] from rfl, List.append_nil, Nat.add_zero] at HR3
              refine ⟨q + (7 + k), true, _, nr - k, cr - k, rest.drop k, A4, no + (7 + k), c4, out ++ partB 3 (rest.take k), rfl, rfl, rfl, rfl, by omega, by omega, by omega, ?_, ?_, ?_, HR3, hr2, m7⟩
              · have h1 := congrArg List.length HR3
                have h2 := HWl.out
                simp only [List.length_append, partB_length, List.length_take, Hol.out, Hrl.out] at h1
                omega
              · show _ = _
                simp only [List.length_append, partB_length, List.length_take, Hol.out, Hrl.out]
                omega
              · show _ = _
                rw [List.length_drop, Hrl.out]
    · have hb : begun = true := by cases begun <;> simp_all
      subst hb
      have hn0 : nr = 0 := by simp at hgo; omega
      subst hn0
      have hWe : W = out := by
        have hr0 : rest = [] := List.eq_nil_of_length_eq_zero Hrl.out
        rw [HWo.out, hr0, toCome_end, List.append_nil]
      have hlW : W.length = no := by rw [hWe]; exact Hol.out
      rw [← hWe] at m2
      have HlW := Lib.hid hlW
      clear hWe hlW hgo
      go_wp2_with fail
      go_ret
      exact ⟨A, ca, by rw [HlW.out]; rfl, by rw [HlW.out]; exact m2⟩
end Go.Proofs.YtcakdaadbpimaaaGreatDoor
