/- The reference's sums (bucketlineref02): Table, On, Own: contracts over the small separation logic; the conditions are in each theorem. -/
import Derived.Test.YtcakdaadbpimaaaGreatDoorPartsG
import Derived.Test.YtcakdaadbpimaaaGreatDoorSame5
namespace Go.Proofs.YtcakdaadbpimaaaGreatDoor
open Go.RowKit Go.Sl
attribute [local go_sem] cell_of cellAt_of frozen_of store_tab
theorem r2_step (v : BitVec 32) : crcBit v = if v.toNat % 2 = 1 then (v >>> 1) ^^^ 0x82f63b78#32 else v >>> 1 := by
  unfold crcBit
  rw [lsb_mod]
  by_cases h : v.toNat % 2 = 1
  · simp [h]
  · simp [h]
theorem r2_half (v : BitVec 32) : ((v.toNat : Int) / (2 : Int)) = ((v >>> 1).toNat : Int) := by
  rw [BitVec.toNat_ushiftRight, Nat.shiftRight_eq_div_pow]; omega
theorem r2_xor (v : BitVec 32) : bits .xor .u32 ((v >>> 1).toNat : Int) 2197175160 = (((v >>> 1) ^^^ 0x82f63b78#32).toNat : Int) := by
  have h := u32_xor_nat (v >>> 1).toNat 2197175160 (v >>> 1).isLt (by omega)
  rw [BitVec.toNat_xor]
  exact h
theorem r2_not (s : BitVec 32) : 4294967295 - (s.toNat : Int) = ((~~~ s).toNat : Int) := by
  have := s.isLt
  rw [BitVec.toNat_not]; omega
theorem r2_upd (v : BitVec 32) (c : UInt8) : bits .xor .u32 ((v.toNat : Int) % 256) (c.toNat : Int) = ((v.toNat % 256 ^^^ c.toNat : Nat) : Int) := by
  have := c.toNat_lt
  exact u32_xor_nat (v.toNat % 256) c.toNat (by omega) (by omega)
set_option maxRecDepth 8000 in
set_option maxHeartbeats 2000000 in
theorem r2on_spec (g : Nat) (s : BitVec 32) (B : Option Addr) (n c : Nat) (b : List UInt8) (w w0 : World) (S : Asn) (m : Mod w w0 S) (ht : Has S g (.cells tabV 290 (0, 0))) (r : Reads S B n (u8s b)) (hn : n ≤ 9223372036854775807) :
    Calls Tryz.prog 246 #[ptr g, .int .u32 (s.toNat : Int), .slice B n c] w fun e w' => e = .returned (.int .u32 ((crcOn s b).toNat : Int)) ∧ Mod w' w0 S := by
  have hl := reads_len m r
  rw [length_u8s] at hl
  have hs := s.isLt
  have hn0 := r2_not s
  have hs2 := (~~~ s).isLt
  go_enter Tryz.func246, Tryz.ntmps246
  go_wp2_with fail
  go_loopg [7, 8] n (fun gk v i wr => ∃ k : Nat, k ≤ n ∧ gk = n - k ∧ i = .int .i64 (k : Int) ∧ v = .int .u32 ((((b.take k).foldl crcUpd (~~~ s)).toNat : Nat) : Int) ∧ Mod wr w0 S)
  case atStart => exact ⟨0, Nat.zero_le _, rfl, rfl, by rw [show (4294967295 - s.toNat) = (~~~ s).toNat from by rw [BitVec.toNat_not]]; rfl, m⟩
  case round =>
    obtain ⟨k, hkn, hgk, rfl, rfl, m2⟩ := hrel
    by_cases hlt : k < n
    · obtain ⟨ad, hB, hsp, hc⟩ := reads_cell m2 r (by omega)
      obtain ⟨b1, o1, sp1⟩ := ad
      simp only at hsp
      subst hsp hB
      have hkl : k < b.length := by omega
      have hx := hc k (.int .u8 ((b[k].toNat : Nat) : Int)) (by simp [u8s, hkl])
      have hki : (k : Int) < (n : Int) := by omega
      have hcl := b[k].toNat_lt
      have HS : Hid ((b.take (k + 1)).foldl crcUpd (~~~ s) = crcUpd ((b.take k).foldl crcUpd (~~~ s)) b[k]) := by
        show _ = _
        rw [List.take_succ_eq_append_getElem hkl, List.foldl_append]; rfl
      clear hc hn0 hs2
      generalize (b.take k).foldl crcUpd (~~~ s) = v at *
      generalize b[k] = c at *
      have hv := v.isLt
      have hix := r2_upd v c
      have hlt2 := upd_lt v c
      have hval := upd_value v c
      have hcell := tabV_get (v.toNat % 256 ^^^ c.toNat) hlt2
      go_wp2_with fail
      go_roundg (n - (k + 1))
      case measure => omega
      case rel => exact ⟨k + 1, by omega, rfl, by go_num, by rw [HS.out], m2⟩
    · have hk2 : b.take k = b := List.take_of_length_le (by omega)
      rw [hk2]
      have hki : ¬ (k : Int) < (n : Int) := by omega
      have he : 4294967295 - (((b.foldl crcUpd (~~~ s)).toNat : Nat) : Int) = ((crcOn s b).toNat : Int) := r2_not _
      have hb := (b.foldl crcUpd (~~~ s)).isLt
      have hb2 := (crcOn s b).isLt
      clear hn0 hs2
      go_wp2_with fail
      go_ret
      exact ⟨rfl, m2⟩
theorem r2_bit (v : BitVec 32) (b : Bool) (hb : decide (v.toNat % 2 = 1) = b) : ((crcBit v).toNat : Int) = if b then bits .xor .u32 ((v.toNat : Int) / 2) 2197175160 else (v.toNat : Int) / 2 := by
  rw [r2_step, r2_half]
  subst hb
  by_cases h : v.toNat % 2 = 1
  · simp only [h, decide_true, if_true]; rw [r2_xor]
  · simp only [h, decide_false, if_false]; rfl
set_option maxRecDepth 8000 in
set_option maxHeartbeats 2000000 in
theorem r2table_spec (w w0 : World) (S : Asn) (m : Mod w w0 S) : Calls Tryz.prog 245 #[] w fun e w' => e = .returned (.agg tabV) ∧ Mod w' w0 S := by
  go_enter Tryz.func245, Tryz.ntmps245
  go_wp2_with fail
  have mA : Mod ((w.alloc (.cells Tryz.zeroCells290 290)).alloc (.cells Tryz.zeroCells290 290)) w0 (Go.Sl.blk (w.heap.size + 1) (.cells Tryz.zeroCells290 290 (0, 0)) * (Go.Sl.blk w.heap.size (.cells Tryz.zeroCells290 290 (0, 0)) * S)) := inferInstance
  obtain ⟨g0, hg0⟩ : ∃ g0, w.heap.size = g0 := ⟨_, rfl⟩
  obtain ⟨g1, hg1⟩ : ∃ g1, g0 + 1 = g1 := ⟨_, rfl⟩
  rw [hg0, hg1] at mA
  rw [hg0, hg1]
  obtain ⟨Z, hZ⟩ : ∃ Z, Tryz.zeroCells290 = Z := ⟨_, rfl⟩
  have hz0 : Z = tabCells 0 := by rw [← hZ]; kernel_rfl
  rw [hZ] at mA
  rw [hZ]
  have hzs : Z.size = 256 := by rw [hz0]; exact tab_size 0
  have Hz := Lib.hid hz0
  clear hg0 hg1 hZ hz0 m
  go_loopg [2] 256 (fun gk i wr => ∃ (k : Nat) (cs : Array Value), k ≤ 256 ∧ gk = 256 - k ∧ i = .int .i64 (k : Int) ∧ Hid (cs = tabCells k) ∧ Mod wr w0 (Go.Sl.blk g1 (.cells cs 290 (0, 0)) * (Go.Sl.blk g0 (.cells Z 290 (0, 0)) * S)))
  case atStart => exact ⟨0, _, by omega, rfl, rfl, Hz.out, mA⟩
  case round =>
    obtain ⟨k, cs, hk, hgk, rfl, Hcs, m2⟩ := hrel
    have hcs : cs.size = 256 := by rw [Hcs.out]; exact tab_size k
    by_cases hlt : k < 256
    · have hki : (k : Int) < 256 := by omega
      go_wp2_with fail
      go_loopg [3, 4] 8 (fun gj n j wr => ∃ q : Nat, q ≤ 8 ∧ gj = 8 - q ∧ j = .int .i64 (q : Int) ∧ n = .int .u32 ((crcBits q (BitVec.ofNat 32 k)).toNat : Int) ∧ Mod wr w0 (Go.Sl.blk g1 (.cells cs 290 (0, 0)) * (Go.Sl.blk g0 (.cells Z 290 (0, 0)) * S)))
      case atStart => exact ⟨0, by omega, rfl, rfl, by simp [crcBits]; omega, m2⟩
      case round =>
        obtain ⟨q, hq, hgj, rfl, rfl, m3⟩ := hrel
        by_cases hlq : q < 8
        · have hqi : (q : Int) < 8 := by omega
          have HB := Lib.hid (crcBits_succ q (BitVec.ofNat 32 k))
          generalize crcBits q (BitVec.ofNat 32 k) = v at *
          have hv := v.isLt
          have HV := Lib.hid (r2_bit v)
          by_cases hodd : v.toNat % 2 = 1
          · have hoi : (v.toNat : Int) % 2 = 1 := by omega
            go_wp2_with fail
            go_roundg (8 - (q + 1))
            case measure => omega
            case rel => exact ⟨q + 1, by omega, rfl, by go_num, by rw [HB.out, HV.out true (decide_eq_true hodd)]; rfl, m3⟩
          · have hoi : ¬ (v.toNat : Int) % 2 = 1 := by omega
            go_wp2_with fail
            go_roundg (8 - (q + 1))
            case measure => omega
            case rel => exact ⟨q + 1, by omega, rfl, by go_num, by rw [HB.out, HV.out false (decide_eq_false hodd)]; rfl, m3⟩
        · have hq8 : q = 8 := by omega
          subst hq8
          have hqi : ¬ ((8 : Nat) : Int) < 8 := by omega
          go_wp2_with fail
          go_roundg (256 - (k + 1))
          case measure => omega
          case rel => exact ⟨k + 1, cs.setIfInBounds k (.int .u32 ((crcTab k).toNat : Int)), by omega, rfl, by go_num, by show _ = _; rw [Hcs.out]; exact tab_set k hlt, repack1 (Go.Sl.blk g1) (inferInstance : Mod (wr.setCell ⟨g1, k, none⟩ (.int .u32 ((crcTab k).toNat : Int))) w0 _)⟩
    · have hk2 : k = 256 := by omega
      subst hk2
      have hki : ¬ ((256 : Nat) : Int) < 256 := by omega
      go_wp2_with fail
      have h1 : cs.all (·.oneCell') = true := by rw [Hcs.out]; exact tab_one 256
      refine wp_load_tab _ rfl rfl hcs ?_
      rename_i hK
      refine hK _ _ ?_
      simp only [Act.put, List.setIfInBounds_toArray, List.set_cons_zero, List.set_cons_succ]
      refine wpList_store_tab rfl _ _ rfl rfl rfl (Mod.to (m := m2) (sep_left_comm _ _ _)) hzs hcs h1 fun w' m3 => ?_
      go_wp2_with fail
      refine bodyPost_ret (results_cell_row rfl _ _ g0 290 cs (0, 0) _ rfl (Mod.heap (m := m3)) und_tab rfl (by rw [size_tab, hcs])) rfl ?_
      exact ⟨by rw [Hcs.out]; rfl, Mod.drop (m := Mod.drop (m := Mod.drop (m := m3)))⟩
set_option maxRecDepth 8000 in
set_option maxHeartbeats 2000000 in
theorem r2own_spec (B : Option Addr) (n c : Nat) (b : List UInt8) (w w0 : World) (S : Asn) (m : Mod w w0 S) (r : Reads S B n (u8s b)) (hn : n ≤ 9223372036854775807) : Calls Tryz.prog 213 #[.slice B n c] w fun e w' => e = .returned (.int .u32 ((crcOn 0#32 b).toNat : Int)) ∧ Mod w' w0 S := by
  go_enter Tryz.func213, Tryz.ntmps213
  have flag := True.intro
  go_wp2_with first
    | (go_at_call 245; clear flag; refine (r2table_spec _ w0 S m).mono ?_; rintro e w1 ⟨rfl, m1⟩)
  have flag := True.intro
  go_wp2_with first
    | (go_at_call 246; clear flag; refine (r2on_spec w1.heap.size 0#32 B n c b _ w0 _ (Mod.alloc (m := m1) _) inferInstance (reads_lift inferInstance r) hn).mono ?_; rintro e w2 ⟨rfl, m2⟩)
  go_ret
  exact ⟨rfl, Mod.drop (m := m2)⟩
end Go.Proofs.YtcakdaadbpimaaaGreatDoor
