/- The walk of JournalsSize: it returns true and changes nothing that was there; no condition. -/
import Derived.Test.YtmpgnnjhgjfgaaaDoorJournalsCutWalk
namespace Go.Sl
/-- records of zeros, so long -/
def recsZ (us : List Nat) : List (List UInt8) := us.map fun u => zeros (u % 2000)
theorem recsZ_snoc (us : List Nat) (k : Nat) (h : k < us.length) : recsZ (us.take (k + 1)) = recsZ (us.take k) ++ [zeros (us[k] % 2000)] := by
  unfold recsZ; rw [List.take_succ_eq_append_getElem h, List.map_append]; rfl
theorem recsZ_sizes : ∀ us : List Nat, ((recsZ us).map List.length).sum ≤ 1999 * us.length
  | [] => by simp [recsZ]
  | u :: us => by
    have := recsZ_sizes us
    have h2 : u % 2000 ≤ 1999 := by omega
    simp only [recsZ, List.map_cons, List.sum_cons, List.length_cons, zeros, List.length_replicate] at this ⊢
    omega
theorem recsZ_le (us : List Nat) (h : us.length ≤ 60) (i : Nat) : (journal [] (recsZ (us.take i))).length ≤ 250000 := by
  have h1 := journal_le (recsZ (us.take i)) [] (us.take i).length
  have h2 := recsZ_sizes (us.take i)
  have h3 : (us.take i).length ≤ 60 := by rw [List.length_take]; omega
  have h4 : (recsZ (us.take i)).length = (us.take i).length := by simp [recsZ]
  rw [List.take_of_length_le (by omega)] at h1
  simp only [List.length_nil] at h1
  omega
/-- one part, told by its place and the room behind it -/
theorem takes_part (a m q lf : Nat) (hq : q = a + gapOf a) (hl : lf = 128 - q % 128) : a + takes a m = q + 7 + min m (lf - 7) + (if m - min m (lf - 7) = 0 then 0 else takes (q + 7 + min m (lf - 7)) (m - min m (lf - 7))) := by
  rw [takes_step, ← hq, ← hl]
  have : (min m (lf - 7) = m) ↔ (m - min m (lf - 7) = 0) := by omega
  by_cases h : min m (lf - 7) = m
  · rw [if_pos h, if_pos (this.1 h)]; omega
  · rw [if_neg h, if_neg (fun e => h (this.2 e))]; omega
theorem size_next {T a m q lf kk : Nat} (hT : T = a + takes a m) (hq : q = a + gapOf a) (hl : lf = 128 - q % 128) (hk : min m (lf - 7) = kk) : (if false = true ∨ 0 < m - kk then T = (q + 7 + kk) + takes (q + 7 + kk) (m - kk) else T = q + 7 + kk) ∧ q + 7 + kk ≤ T := by
  rw [takes_part a m q lf hq hl, hk] at hT
  by_cases h : m - kk = 0
  · rw [if_pos h] at hT
    rw [if_neg (by rintro (h2 | h2); · cases h2
                   · omega)]; omega
  · rw [if_neg h] at hT
    rw [if_pos (.inr (by omega))]; omega
end Go.Sl
namespace Go.Proofs.YtmpgnnjhgjfgaaaDoor
open Go.RowKit Go.Sl
attribute [local go_sem] cell_of frozen_of zero_names conv_const conv_bs conv_nil make_bytes
set_option maxRecDepth 4000 in
set_option maxHeartbeats 4000000 in
theorem journalsSize_run (B1 : Option Addr) (n c1 : Nat) (us : List Nat) (w w0 : World) (S : Asn) (m : Mod w w0 S) (r1 : Reads S B1 n (u16s us)) (hl : us.length = n) (hn : n ≤ 9223372036854775807) (hu : ∀ x ∈ us, x < 65536) :
    Calls Tryd.prog 4 #[.slice B1 n c1] w fun e w' => e = .returned (.bool true) ∧ Mod w' w0 S := by
  have Hl := Lib.hid hl
  have Hu := Lib.hid hu
  clear hl hu
  by_cases hlen : 60 < n
  · go_enter Tryd.func4, Tryd.ntmps4
    go_wp2_with first
      | (go_at_call 10; refine (alive6_spec _ w0 _ (by assumption)).mono ?_; rintro e w1 ⟨rfl, _m1⟩; try clear m)
    go_ret
    exact ⟨rfl, _m1⟩
  · go_enter Tryd.func4, Tryd.ntmps4
    go_wp2_with fail
    refine (alive6_spec _ w0 _ m).mono ?_
    rintro e w1 ⟨rfl, m1⟩
    go_wp2_with fail
    refine (opened6_spec w1 w0 S m1).mono ?_
    rintro e w3 ⟨p, j, g, rfl, m3⟩
    clear m m1
    go_wp2_with fail
    obtain ⟨G0, m4, rG, sG⟩ : ∃ G, Mod w3 w0 (diskA p (jay g [] 0 []) * (jourA j p nj 0 * G)) ∧ Reads G B1 n (u16s us) ∧ Sub G S := ⟨S, m3, r1, inferInstance⟩
    have HJ := Lib.hid (recsZ_le us (by have := Hl.out; omega))
    clear m3 r1
    go_loopg [5, 6] n (fun gk av iv wr => ∃ (k : Nat) (G : Asn), k ≤ n ∧ gk = n - k ∧ iv = .int .i64 (k : Int) ∧ av = .int .i64 ((journal [] (recsZ (us.take k))).length : Int) ∧ Reads G B1 n (u16s us) ∧ Sub G S ∧ Mod wr w0 (diskA p (jay g (journal [] (recsZ (us.take k))) 0 []) * (jourA j p nj (journal [] (recsZ (us.take k))).length * G)))
    case atStart => exact ⟨0, G0, Nat.zero_le _, rfl, rfl, rfl, rG, sG, m4⟩
    case round =>
      obtain ⟨k, G, hkn, hgk, rfl, rfl, rG, sG, m5⟩ := hrel
      have hJk := HJ.out k
      by_cases hlt : k < n
      · obtain ⟨ad, hB1, hsp, hc⟩ := reads_cell (Mod.sub G (m := m5)) rG (by omega)
        obtain ⟨b1, o1, sp1⟩ := ad
        simp only at hsp
        subst hsp hB1
        have hkl : k < us.length := by have := Hl.out; omega
        have hx := hc k (.int .u16 ((us[k] : Nat) : Int)) (by simp [hkl])
        have hu1 := Hu.out us[k] (List.getElem_mem hkl)
        have htk : Hid (recsZ (us.take (k + 1)) = recsZ (us.take k) ++ [zeros (us[k] % 2000)]) := recsZ_snoc us k hkl
        obtain ⟨nn, hnn⟩ : ∃ nn : Nat, us[k] % 2000 = nn := ⟨_, rfl⟩
        have hnl : nn ≤ 1999 := by omega
        have hni : (((us[k] : Nat) : Int) % 2000) = (nn : Int) := by omega
        rw [hnn] at htk
        have hki : (k : Int) < (n : Int) := by omega
        generalize us[k] = x at *
        clear hc hkl hnn
        have hnb : (nn : Int) ≤ 281474976710656 := by omega
        go_wp2_with fail
        have hJk2 := HJ.out (k + 1)
        have HA := jay_addJ p g j (recsZ (us.take k)) 0 [] (wr.alloc (.cells (madeCells #[.int .u8 0] nn) 5)) w0 (blk wr.heap.size (.cells (madeCells #[.int .u8 0] nn) 5 (0, 0)) * G) (some ⟨wr.heap.size, 0, none⟩) nn (zeros nn)
          (front3 inferInstance) (by have : Reads (blk wr.heap.size (.cells (madeCells #[.int .u8 0] nn) 5 (0, 0)) * G) (some ⟨wr.heap.size, 0, none⟩) (zeros nn).length (u8s (zeros nn)) := reads_blk (by rw [made_u8s]; rfl) (by rw [length_u8s]); exact this) (by simp [zeros]) (by simp [zeros]; omega) (by rw [← htk.out]; omega)
        rw [← htk.out, show (zeros nn).length = nn by simp [zeros]] at HA
        refine HA.mono ?_
        rintro e w6 ⟨rfl, m6⟩
        clear HA m5 hx
        have hT : (journal [] (recsZ (us.take (k + 1)))).length = (journal [] (recsZ (us.take k))).length + takes (journal [] (recsZ (us.take k))).length nn := by
          rw [htk.out, journal_snoc, List.length_append, takes_of]; simp [zeros]
        obtain ⟨T, hTe⟩ : ∃ T, (journal [] (recsZ (us.take (k + 1)))).length = T := ⟨_, rfl⟩
        obtain ⟨a0, ha0⟩ : ∃ a0, (journal [] (recsZ (us.take k))).length = a0 := ⟨_, rfl⟩
        rw [hTe] at hT hJk2 m6
        rw [ha0] at hT hJk
        rw [ha0]
        have HTe := Lib.hid hTe
        have HT := Lib.hid hT
        clear hTe hT ha0
        go_wp2_with fail
        go_loopg [5, 7, 8] (2 * nn + 1) (fun gk2 av nv fv wr2 => ∃ (a m : Nat) (fst : Bool), av = .int .i64 (a : Int) ∧ nv = .int .i64 (m : Int) ∧ fv = .bool fst ∧ m ≤ nn ∧ a ≤ T ∧ gk2 = 2 * m + (if fst then 1 else 0) ∧ Hid (if fst = true ∨ 0 < m then T = a + takes a m else T = a) ∧ Mod wr2 w0 (diskA p (jay g (journal [] (recsZ (us.take (k + 1)))) 0 []) * (jourA j p nj T * (blk wr.heap.size (.cells (madeCells #[.int .u8 0] nn) 5 (0, 0)) * G))))
        case atStart => exact ⟨a0, nn, true, rfl, rfl, rfl, Nat.le_refl _, by have := HT.out; omega, by simp, by show (if _ then _ else _); rw [if_pos (.inl rfl)]; exact HT.out, m6⟩
        case round =>
          obtain ⟨a, mm, fst, rfl, rfl, rfl, hmn, haT, hgk2, HI, m7⟩ := hrel
          obtain ⟨r, hr⟩ : ∃ r, a % 128 = r := ⟨_, rfl⟩
          have hri : ((a : Int) % 128) = (r : Int) := by omega
          have hr128 : r < 128 := by omega
          cases fst
          · by_cases hm0 : 0 < mm
            · have HI2 : Hid (T = a + takes a mm) := by have := HI.out; rw [if_pos (.inr hm0)] at this; exact this
              have hmi : (0 : Int) < (mm : Int) := by omega
              clear HI
              by_cases hlf : 120 < r
              · have hl8 : (128 : Int) - (r : Int) < 8 := by omega
                have hq : a + (128 - r) = a + gapOf a := by unfold gapOf; rw [if_pos (by omega), hr]
                obtain ⟨kk, hkk⟩ : ∃ kk, min mm 121 = kk := ⟨_, rfl⟩
                have hkki : min (mm : Int) 121 = (kk : Int) := by omega
                obtain ⟨e1, e2⟩ := size_next (lf := 128) HI2.out hq (by omega) (by omega : min mm (128 - 7) = kk)
                have E1 := Lib.hid e1
                have hk1 : 0 < mm → 0 < kk := by omega
                clear e1 hkk hq
                go_wp2_with fail
                go_roundg (2 * (mm - kk))
                case measure => rw [if_neg (by decide)] at hgk2; have := hk1 hm0; omega
                case rel => exact ⟨a + (128 - r) + 7 + kk, mm - kk, false, congrArg (Value.int .i64) (by omega), congrArg (Value.int .i64) (by omega), rfl, by omega, e2, by simp, E1, m7⟩
              · have hl8 : ¬ ((128 : Int) - (r : Int) < 8) := by omega
                have hq : a = a + gapOf a := by unfold gapOf; rw [if_neg (by omega)]; rfl
                obtain ⟨kk, hkk⟩ : ∃ kk, min mm (128 - r - 7) = kk := ⟨_, rfl⟩
                have hkki : min (mm : Int) ((128 : Int) - (r : Int) - 7) = (kk : Int) := by omega
                obtain ⟨e1, e2⟩ := size_next (lf := (128 - r)) HI2.out hq (by omega) (by omega : min mm ((128 - r) - 7) = kk)
                have E1 := Lib.hid e1
                have hk1 : 0 < mm → 0 < kk := by omega
                clear e1 hkk hq
                go_wp2_with fail
                go_roundg (2 * (mm - kk))
                case measure => rw [if_neg (by decide)] at hgk2; have := hk1 hm0; omega
                case rel => exact ⟨a + 7 + kk, mm - kk, false, congrArg (Value.int .i64) (by omega), congrArg (Value.int .i64) (by omega), rfl, by omega, e2, by simp, E1, m7⟩
            · have hTa : T = a := by have := HI.out; rw [if_neg (by simp [hm0])] at this; exact this
              have hmi : ¬ ((0 : Int) < (mm : Int)) := by omega
              subst hTa
              clear HI
              go_wp2_with fail
              have HS := jay_size p g (journal [] (recsZ (us.take (k + 1)))) 0 [] wr w0 _ _ m7 inferInstance
              rw [HTe.out] at HS
              refine HS.mono ?_
              rintro e w8 ⟨rfl, m8⟩
              clear HS m7
              go_wp2_with fail
              go_roundg (n - (k + 1))
              case measure => omega
              case rel => exact ⟨k + 1, _, by omega, rfl, by go_num, by rw [HTe.out], reads_lift inferInstance rG, inferInstance, by rw [HTe.out]; exact m8⟩
          · have HI2 : Hid (T = a + takes a mm) := by have := HI.out; rw [if_pos (.inl rfl)] at this; exact this
            clear HI
            by_cases hlf : 120 < r
            · have hl8 : (128 : Int) - (r : Int) < 8 := by omega
              have hq : a + (128 - r) = a + gapOf a := by unfold gapOf; rw [if_pos (by omega), hr]
              obtain ⟨kk, hkk⟩ : ∃ kk, min mm 121 = kk := ⟨_, rfl⟩
              have hkki : min (mm : Int) 121 = (kk : Int) := by omega
              obtain ⟨e1, e2⟩ := size_next (lf := 128) HI2.out hq (by omega) (by omega : min mm (128 - 7) = kk)
              have E1 := Lib.hid e1
              have hk1 : 0 < mm → 0 < kk := by omega
              clear e1 hkk hq
              go_wp2_with fail
              go_roundg (2 * (mm - kk))
              case measure => rw [if_pos (by trivial)] at hgk2; omega
              case rel => exact ⟨a + (128 - r) + 7 + kk, mm - kk, false, congrArg (Value.int .i64) (by omega), congrArg (Value.int .i64) (by omega), rfl, by omega, e2, by simp, E1, m7⟩
            · have hl8 : ¬ ((128 : Int) - (r : Int) < 8) := by omega
              have hq : a = a + gapOf a := by unfold gapOf; rw [if_neg (by omega)]; rfl
              obtain ⟨kk, hkk⟩ : ∃ kk, min mm (128 - r - 7) = kk := ⟨_, rfl⟩
              have hkki : min (mm : Int) ((128 : Int) - (r : Int) - 7) = (kk : Int) := by omega
              obtain ⟨e1, e2⟩ := size_next (lf := (128 - r)) HI2.out hq (by omega) (by omega : min mm ((128 - r) - 7) = kk)
              have E1 := Lib.hid e1
              have hk1 : 0 < mm → 0 < kk := by omega
              clear e1 hkk hq
              go_wp2_with fail
              go_roundg (2 * (mm - kk))
              case measure => rw [if_pos (by trivial)] at hgk2; omega
              case rel => exact ⟨a + 7 + kk, mm - kk, false, congrArg (Value.int .i64) (by omega), congrArg (Value.int .i64) (by omega), rfl, by omega, e2, by simp, E1, m7⟩
      · have hlti : ¬ ((k : Int) < (n : Int)) := by omega
        go_wp2_with fail
        go_ret
        exact ⟨rfl, Mod.sub S (m := Mod.sub G (m := m5))⟩
theorem journalsSize_walk (B1 : Option Addr) (n c1 : Nat) (w w0 : World) (S : Asn) [m : Mod w w0 S] (hs : ∃ xs : List Nat, xs.length = n ∧ Reads S B1 n (u16s xs) ∧ (∀ x ∈ xs, x < 65536) ∧ n ≤ c1 ∧ c1 ≤ maxLen) :
    Calls Tryd.prog 4 #[.slice B1 n c1] w fun e w' => e = .returned (.bool true) ∧ Mod w' w0 S := by
  obtain ⟨xs, h1, h2, h3, h4, h5⟩ := hs
  unfold maxLen at h5
  exact journalsSize_run B1 n c1 xs w w0 S m h2 h1 (by omega) h3
end Go.Proofs.YtmpgnnjhgjfgaaaDoor
