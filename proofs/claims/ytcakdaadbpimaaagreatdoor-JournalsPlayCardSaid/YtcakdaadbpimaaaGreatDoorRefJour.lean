/- The reference's journal (bucketlineref06): Open, Add, Sync: contracts over the small separation logic; the conditions are in each theorem. -/
import Derived.Test.YtcakdaadbpimaaaGreatDoorRefWrit
import Derived.Test.YtcakdaadbpimaaaGreatDoorJourG
namespace Go.Proofs.YtcakdaadbpimaaaGreatDoor
open Go.RowKit Go.Sl
attribute [local go_sem] cell_of frozen_of zero_names
/-- the reference's journal in the heap -/
def rjourA (j q : Nat) (name : ByteArray) (e : Nat) : Asn := Go.Sl.blk j (.cells #[ptr q, .string name, .int .i64 (e : Int)] 134 (0, 0))
section
variable (j q : Nat) (M : DiskSt) (name : ByteArray) (w w0 : World) (F : Asn) (B : Option Addr) (c : Nat) (rec : List UInt8) (hs : name.size ≤ 9223372036854775807) (hn : nameOk name = true)
include hs hn
set_option maxHeartbeats 4000000 in
theorem r6add_none (en n : Nat) (m : Mod w w0 (refA q M * (rjourA j q name en * F))) (hl : n ≤ 65536) (hg : mget M.now name = none) :
    Calls Tryz.prog 40 #[ptr j, .slice B n c] w fun e w' => e = .returned (.int .i64 7) ∧ Mod w' w0 (refA q M * (rjourA j q name en * F)) := by
  unfold rjourA at m ⊢
  go_enter Tryz.func40, Tryz.ntmps40
  go_wp2_with fail
  obtain ⟨SS, hSS, mSS⟩ : ∃ SS, SS = refA q M * (Go.Sl.blk j (.cells #[ptr q, .string name, .int .i64 (en : Int)] 134 (0, 0)) * F) ∧ Mod w w0 SS := ⟨_, rfl, m⟩
  have hj : Has SS j (.cells #[ptr q, .string name, .int .i64 (en : Int)] 134 (0, 0)) := by rw [hSS]; infer_instance
  have HC : Hid (∀ u, Mod u w0 SS → Calls Tryz.prog 31 #[ptr q, .string name] u fun e w' => e = .returned (.tuple #[.int .i64 0, .int .i64 7]) ∧ Mod w' w0 SS) := fun u mu => by rw [hSS] at mu ⊢; exact rsize_none q M name u w0 _ mu hs hn hg
  have HSS := Lib.hid hSS
  clear hSS m
  have := Held.some mSS
  refine wp_region_mod mSS (by kernel_rfl) (by kernel_rfl) ?_
  repeat (go_big_quiet_step ((go_at_call 31; refine quiet_call (HC.out _ ?_); exact inferInstance)))
  refine wpQuiet_nil ?_
  rintro w3 ⟨s, rfl⟩
  have m3 := Mod.to (m := s.mod) HSS.out
  clear HC mSS hj HSS this
  generalize s.world = w3 at *
  go_wp2_with fail
  go_ret
  exact ⟨rfl, m3⟩
variable (g : Nat) (f : FileSt) (hg : mget M.now name = some g) (hf : fget M.files g = some f)
include hg hf
set_option maxHeartbeats 4000000 in
theorem r6add_state (en n : Nat) (m : Mod w w0 (refA q M * (rjourA j q name en * F))) (hl : n ≤ 65536) (he : f.bytes.length ≠ en) :
    Calls Tryz.prog 40 #[ptr j, .slice B n c] w fun e w' => e = .returned (.int .i64 9) ∧ Mod w' w0 (refA q M * (rjourA j q name en * F)) := by
  unfold rjourA at m ⊢
  go_enter Tryz.func40, Tryz.ntmps40
  go_wp2_with fail
  obtain ⟨SS, hSS, mSS⟩ : ∃ SS, SS = refA q M * (Go.Sl.blk j (.cells #[ptr q, .string name, .int .i64 (en : Int)] 134 (0, 0)) * F) ∧ Mod w w0 SS := ⟨_, rfl, m⟩
  have hj : Has SS j (.cells #[ptr q, .string name, .int .i64 (en : Int)] 134 (0, 0)) := by rw [hSS]; infer_instance
  have HC : Hid (∀ u, Mod u w0 SS → Calls Tryz.prog 31 #[ptr q, .string name] u fun e w' => e = .returned (.tuple #[.int .i64 (f.bytes.length : Int), .int .i64 0]) ∧ Mod w' w0 SS) := fun u mu => by rw [hSS] at mu ⊢; have h := rsize_some q M name u w0 _ mu hs g f hn hg hf; exact h
  have HSS := Lib.hid hSS
  clear hSS m
  have := Held.some mSS
  refine wp_region_mod mSS (by kernel_rfl) (by kernel_rfl) ?_
  repeat (go_big_quiet_step ((go_at_call 31; refine quiet_call (HC.out _ ?_); exact inferInstance)))
  refine wpQuiet_nil ?_
  rintro w3 ⟨s, rfl⟩
  have m3 := Mod.to (m := s.mod) HSS.out
  clear HC mSS hj HSS this
  generalize s.world = w3 at *
  go_wp2_with fail
  go_ret
  exact ⟨rfl, m3⟩
set_option maxHeartbeats 4000000 in
theorem r6add_full (m : Mod w w0 (refA q M * (rjourA j q name f.bytes.length * F))) (r : Reads F B rec.length (u8s rec)) (hc : rec.length ≤ c) (hl : rec.length ≤ 65536) (hb1 : f.bytes.length ≤ 1048576)
    (h : leftOf M < (writ f.bytes.length true rec).length ∨ 1048576 < f.bytes.length + (writ f.bytes.length true rec).length) :
    Calls Tryz.prog 40 #[ptr j, .slice B rec.length c] w fun e w' => e = .returned (.int .i64 6) ∧
      Mod w' w0 (refA q M * (rjourA j q name f.bytes.length * F)) := by
  unfold rjourA at m ⊢
  have hwl := writ_length_le f.bytes.length rec
  obtain ⟨out, hout⟩ : ∃ out, writ f.bytes.length true rec = out := ⟨_, rfl⟩
  obtain ⟨b, hb⟩ : ∃ b, f.bytes.length = b := ⟨_, rfl⟩
  have hW := r6written_spec b B rec.length c rec
  rw [hout] at h hwl
  rw [hb] at hout m hb1 h ⊢
  rw [hout] at hW
  have HW := Lib.hid hW
  clear hW
  have Hb := Lib.hid hb
  clear hout
  go_enter Tryz.func40, Tryz.ntmps40
  go_wp2_with fail
  obtain ⟨SS, hSS, mSS⟩ : ∃ SS, SS = refA q M * (Go.Sl.blk j (.cells #[ptr q, .string name, .int .i64 (b : Int)] 134 (0, 0)) * F) ∧ Mod w w0 SS := ⟨_, rfl, m⟩
  have hj : Has SS j (.cells #[ptr q, .string name, .int .i64 (b : Int)] 134 (0, 0)) := by rw [hSS]; infer_instance
  have HC : Hid (∀ u, Mod u w0 SS → Calls Tryz.prog 31 #[ptr q, .string name] u fun e w' => e = .returned (.tuple #[.int .i64 (b : Int), .int .i64 0]) ∧ Mod w' w0 SS) := fun u mu => by rw [hSS] at mu ⊢; have h := rsize_some q M name u w0 _ mu hs g f hn hg hf; rw [Hb.out] at h; exact h
  have HSS := Lib.hid hSS
  clear hSS m
  clear hb
  have := Held.some mSS
  refine wp_region_mod mSS (by kernel_rfl) (by kernel_rfl) ?_
  repeat (go_big_quiet_step ((go_at_call 31; refine quiet_call (HC.out _ ?_); exact inferInstance)))
  refine wpQuiet_nil ?_
  rintro w3 ⟨s, rfl⟩
  have m3 := Mod.to (m := s.mod) HSS.out
  clear HC mSS hj HSS this
  generalize s.world = w3 at *
  go_wp2_with fail
  refine (HW.out w3 w0 _ m3 (reads_lift inferInstance r) hc (by omega) (by omega)).mono ?_
  rintro e w4 ⟨A', c', rfl, m4⟩
  have m4b := Mod.to (m := m4) (sep_left_comm _ _ _)
  clear m4
  go_wp2_with fail
  obtain ⟨SS, hSS, mSS⟩ : ∃ SS, SS = refA q M * (rowA 5 1 (.slice A' out.length c') out.length (u8s out) * (Go.Sl.blk j (.cells #[ptr q, .string name, .int .i64 (b : Int)] 134 (0, 0)) * F)) ∧ Mod w4 w0 SS := ⟨_, rfl, m4b⟩
  have hj : Has SS j (.cells #[ptr q, .string name, .int .i64 (b : Int)] 134 (0, 0)) := by rw [hSS]; infer_instance
  have HSS := Lib.hid hSS
  clear hSS
  have := Held.some mSS
  refine wp_region_mod_tail 9 mSS (by kernel_rfl) (by kernel_rfl) ?_
  simp only [List.take_succ_cons, List.take_zero, List.drop_succ_cons, List.drop_zero]
  repeat (go_big_quiet_step (fail))
  refine wpQuiet_nil ?_
  rintro w5 ⟨s, rfl⟩
  have m5 := Mod.to (m := s.mod) HSS.out
  clear mSS hj HSS this m4b
  generalize s.world = w5 at *
  go_wp2_with fail
  refine (rappend_full q M name w5 w0 _ m5 hs A' out.length c' g f hn hg hf (by omega) (by rw [Hb.out]; exact h)).mono ?_
  rintro e w6 ⟨rfl, m6⟩
  go_wp2_with fail
  go_ret
  exact ⟨rfl, Mod.keep m6⟩
set_option maxHeartbeats 4000000 in
theorem r6add_ok (m : Mod w w0 (refA q M * (rjourA j q name f.bytes.length * F))) (r : Reads F B rec.length (u8s rec)) (hc : rec.length ≤ c) (hl : rec.length ≤ 65536) (hb1 : f.bytes.length ≤ 1048576)
    (h1 : (writ f.bytes.length true rec).length ≤ leftOf M) (h2 : f.bytes.length + (writ f.bytes.length true rec).length ≤ 1048576) :
    Calls Tryz.prog 40 #[ptr j, .slice B rec.length c] w fun e w' => e = .returned (.int .i64 0) ∧
      Mod w' w0 (refA q { M with files := fset M.files g ⟨f.bytes ++ writ f.bytes.length true rec, f.sure⟩ } * (rjourA j q name (f.bytes ++ writ f.bytes.length true rec).length * F)) := by
  unfold rjourA at m ⊢
  have hwl := writ_length_le f.bytes.length rec
  obtain ⟨out, hout⟩ : ∃ out, writ f.bytes.length true rec = out := ⟨_, rfl⟩
  obtain ⟨b, hb⟩ : ∃ b, f.bytes.length = b := ⟨_, rfl⟩
  have hW := r6written_spec b B rec.length c rec
  rw [hout] at h1 h2 hwl ⊢
  rw [hb] at hout m hb1 h2
  rw [hout] at hW
  have HW := Lib.hid hW
  clear hW
  have Hb := Lib.hid hb
  clear hout
  go_enter Tryz.func40, Tryz.ntmps40
  go_wp2_with fail
  obtain ⟨SS, hSS, mSS⟩ : ∃ SS, SS = refA q M * (Go.Sl.blk j (.cells #[ptr q, .string name, .int .i64 (b : Int)] 134 (0, 0)) * F) ∧ Mod w w0 SS := ⟨_, rfl, m⟩
  have hj : Has SS j (.cells #[ptr q, .string name, .int .i64 (b : Int)] 134 (0, 0)) := by rw [hSS]; infer_instance
  have HC : Hid (∀ u, Mod u w0 SS → Calls Tryz.prog 31 #[ptr q, .string name] u fun e w' => e = .returned (.tuple #[.int .i64 (b : Int), .int .i64 0]) ∧ Mod w' w0 SS) := fun u mu => by rw [hSS] at mu ⊢; have h := rsize_some q M name u w0 _ mu hs g f hn hg hf; rw [Hb.out] at h; exact h
  have HSS := Lib.hid hSS
  clear hSS m
  clear hb
  have := Held.some mSS
  refine wp_region_mod mSS (by kernel_rfl) (by kernel_rfl) ?_
  repeat (go_big_quiet_step ((go_at_call 31; refine quiet_call (HC.out _ ?_); exact inferInstance)))
  refine wpQuiet_nil ?_
  rintro w3 ⟨s, rfl⟩
  have m3 := Mod.to (m := s.mod) HSS.out
  clear HC mSS hj HSS this
  generalize s.world = w3 at *
  go_wp2_with fail
  refine (HW.out w3 w0 _ m3 (reads_lift inferInstance r) hc (by omega) (by omega)).mono ?_
  rintro e w4 ⟨A', c', rfl, m4⟩
  have m4b := Mod.to (m := m4) (sep_left_comm _ _ _)
  clear m4
  go_wp2_with fail
  obtain ⟨SS, hSS, mSS⟩ : ∃ SS, SS = refA q M * (rowA 5 1 (.slice A' out.length c') out.length (u8s out) * (Go.Sl.blk j (.cells #[ptr q, .string name, .int .i64 (b : Int)] 134 (0, 0)) * F)) ∧ Mod w4 w0 SS := ⟨_, rfl, m4b⟩
  have hj : Has SS j (.cells #[ptr q, .string name, .int .i64 (b : Int)] 134 (0, 0)) := by rw [hSS]; infer_instance
  have HSS := Lib.hid hSS
  clear hSS
  have := Held.some mSS
  refine wp_region_mod_tail 9 mSS (by kernel_rfl) (by kernel_rfl) ?_
  simp only [List.take_succ_cons, List.take_zero, List.drop_succ_cons, List.drop_zero]
  repeat (go_big_quiet_step (fail))
  refine wpQuiet_nil ?_
  rintro w5 ⟨s, rfl⟩
  have m5 := Mod.to (m := s.mod) HSS.out
  clear mSS hj HSS this m4b
  generalize s.world = w5 at *
  go_wp2_with fail
  refine (rappend_ok q M name w5 w0 _ m5 hs A' c' out inferInstance g f hn hg hf h1 (by have := Hb.out; omega)).mono ?_
  rintro e w6 ⟨rfl, m6⟩
  go_wp2_with fail
  go_ret
  have m7 : Mod (w6.setCell ⟨j, 2, none⟩ (.int .i64 ((b : Int) + (out.length : Int)))) w0 _ := inferInstance
  simp only [List.setIfInBounds_toArray, List.set_cons_succ, List.set_cons_zero] at m7
  have e : ((f.bytes ++ out).length : Int) = (b : Int) + (out.length : Int) := by rw [List.length_append, Hb.out]; omega
  rw [e]
  exact ⟨rfl, Mod.keep m7⟩
end
section
variable (j q : Nat) (M : DiskSt) (name : ByteArray) (w w0 : World) (F : Asn) (hs : name.size ≤ 9223372036854775807) (hn : nameOk name = true) (en : Nat) (m : Mod w w0 (refA q M * (rjourA j q name en * F)))
include hs hn m
set_option maxHeartbeats 4000000 in
theorem r6sync_none (hg : mget M.now name = none) : Calls Tryz.prog 42 #[ptr j] w fun e w' => e = .returned (.int .i64 7) ∧ Mod w' w0 (refA q M * (rjourA j q name en * F)) := by
  unfold rjourA at m ⊢
  go_enter Tryz.func42, Tryz.ntmps42
  go_wp2_with fail
  obtain ⟨SS, hSS, mSS⟩ : ∃ SS, SS = refA q M * (Go.Sl.blk j (.cells #[ptr q, .string name, .int .i64 (en : Int)] 134 (0, 0)) * F) ∧ Mod w w0 SS := ⟨_, rfl, m⟩
  have hj : Has SS j (.cells #[ptr q, .string name, .int .i64 (en : Int)] 134 (0, 0)) := by rw [hSS]; infer_instance
  have HSS := Lib.hid hSS
  clear hSS
  have := Held.some mSS
  refine wp_region_mod_tail 8 mSS (by kernel_rfl) (by kernel_rfl) ?_
  simp only [List.take_succ_cons, List.take_zero, List.drop_succ_cons, List.drop_zero]
  repeat (go_big_quiet_step (fail))
  refine wpQuiet_nil ?_
  rintro w5 ⟨s, rfl⟩
  have m5 := Mod.to (m := s.mod) HSS.out
  clear mSS hj HSS this m
  generalize s.world = w5 at *
  go_wp2_with fail
  refine (rsync_none q M name w5 w0 _ m5 hs hn hg).mono ?_
  rintro e w6 ⟨rfl, m6⟩
  go_wp2_with fail
  go_ret
  exact ⟨rfl, m6⟩
set_option maxHeartbeats 4000000 in
theorem r6sync_some (g : Nat) (f : FileSt) (hg : mget M.now name = some g) (hf : fget M.files g = some f) : Calls Tryz.prog 42 #[ptr j] w fun e w' => e = .returned (.int .i64 0) ∧ Mod w' w0 (refA q { M with files := fset M.files g ⟨f.bytes, f.bytes.length⟩ } * (rjourA j q name en * F)) := by
  unfold rjourA at m ⊢
  go_enter Tryz.func42, Tryz.ntmps42
  go_wp2_with fail
  obtain ⟨SS, hSS, mSS⟩ : ∃ SS, SS = refA q M * (Go.Sl.blk j (.cells #[ptr q, .string name, .int .i64 (en : Int)] 134 (0, 0)) * F) ∧ Mod w w0 SS := ⟨_, rfl, m⟩
  have hj : Has SS j (.cells #[ptr q, .string name, .int .i64 (en : Int)] 134 (0, 0)) := by rw [hSS]; infer_instance
  have HSS := Lib.hid hSS
  clear hSS
  have := Held.some mSS
  refine wp_region_mod_tail 8 mSS (by kernel_rfl) (by kernel_rfl) ?_
  simp only [List.take_succ_cons, List.take_zero, List.drop_succ_cons, List.drop_zero]
  repeat (go_big_quiet_step (fail))
  refine wpQuiet_nil ?_
  rintro w5 ⟨s, rfl⟩
  have m5 := Mod.to (m := s.mod) HSS.out
  clear mSS hj HSS this m
  generalize s.world = w5 at *
  go_wp2_with fail
  refine (rsync_some q M name w5 w0 _ m5 hs g f hn hg hf).mono ?_
  rintro e w6 ⟨rfl, m6⟩
  go_wp2_with fail
  go_ret
  exact ⟨rfl, m6⟩
end
section
variable (j p : Nat) (D : DiskSt) (name : ByteArray) (w w0 : World) (F : Asn) (B : Option Addr) (c : Nat) (rec : List UInt8) (g : Nat) (f : FileSt) (hs : name.size ≤ 9223372036854775807) (hn : nameOk name = true) (hg : mget D.now name = some g) (hf : fget D.files g = some f)
include hs hn hg hf
set_option maxHeartbeats 4000000 in
theorem add_full (m : Mod w w0 (diskA p D * (jourA j p name f.bytes.length * F))) (r : Reads F B rec.length (u8s rec)) (hc : rec.length ≤ c) (hl : rec.length ≤ 65536)
    (hb1 : f.bytes.length ≤ 1048576) (h : leftOf D < (writ f.bytes.length true rec).length ∨ 1048576 < f.bytes.length + (writ f.bytes.length true rec).length) :
    Calls Tryz.prog 39 #[ptr j, .slice B rec.length c] w fun e w' => e = .returned (.int .i64 6) ∧
      Mod w' w0 (diskA p D * (jourA j p name f.bytes.length * F)) := by
  unfold jourA at m ⊢
  obtain ⟨out, hout⟩ : ∃ out, writ f.bytes.length true rec = out := ⟨_, rfl⟩
  obtain ⟨b, hb⟩ : ∃ b, f.bytes.length = b := ⟨_, rfl⟩
  have hW := written_spec b B rec.length c rec
  have hwl := writ_length_le f.bytes.length rec
  rw [hout] at h hwl
  rw [hb] at hout m h hb1 ⊢
  rw [hout] at hW
  have HW := Lib.hid hW
  clear hW
  have Hb := Lib.hid hb
  clear hb hout
  go_enter Tryz.func39, Tryz.ntmps39
  go_wp2_with (go_at_call 105; refine (jthere_spec j p name _ _ w0 _ inferInstance).mono ?_; rintro e w1 ⟨rfl, _m1⟩)
  obtain ⟨SS, hSS, mSS⟩ : ∃ SS, SS = _ ∧ Mod w1 w0 SS := ⟨_, rfl, _m1⟩
  have hj : Has SS j (.cells #[ptr p, .string name, .int .i64 (b : Int)] 129 (0, 0)) := by rw [hSS]; infer_instance
  obtain ⟨FF, hp⟩ : ∃ FF, Take SS (diskA p) D FF := ⟨_, by rw [hSS]; infer_instance⟩
  have HC : Hid (∀ u, Mod u w0 SS → Calls Tryz.prog 30 #[ptr p, .string name] u fun e w' => e = .returned (.tuple #[.int .i64 (b : Int), .int .i64 0]) ∧ Mod w' w0 SS) := fun u mu => by have := size_some p D name g f u w0 SS _ mu hp hs hn hg hf; rw [Hb.out] at this; exact this
  have HSS := Lib.hid hSS
  clear hSS
  have := Held.some mSS
  refine wp_region_mod mSS (by kernel_rfl) (by kernel_rfl) ?_
  repeat (go_big_quiet_step ((go_at_call 30; refine quiet_call (HC.out _ ?_); exact inferInstance)))
  refine wpQuiet_nil ?_
  rintro w3 ⟨s, rfl⟩
  have m3 := Mod.to (m := s.mod) HSS.out
  clear HC mSS hj hp HSS this
  generalize s.world = w3 at *
  go_wp2_with fail
  refine (HW.out w3 w0 _ m3 inferInstance hc (by omega)).mono ?_
  rintro e w4 ⟨A', c', rfl, m4⟩
  go_wp2_with fail
  obtain ⟨SS, hSS, mSS⟩ : ∃ SS, SS = _ ∧ Mod w4 w0 SS := ⟨_, rfl, m4⟩
  have hj : Has SS j (.cells #[ptr p, .string name, .int .i64 (b : Int)] 129 (0, 0)) := by rw [hSS]; infer_instance
  have HSS := Lib.hid hSS
  clear hSS
  have := Held.some mSS
  refine wp_region_mod_tail 9 mSS (by kernel_rfl) (by kernel_rfl) ?_
  simp only [List.take_succ_cons, List.take_zero, List.drop_succ_cons, List.drop_zero]
  repeat (go_big_quiet_step (fail))
  refine wpQuiet_nil ?_
  rintro w5 ⟨s, rfl⟩
  have m5 := Mod.to (m := s.mod) HSS.out
  clear mSS hj HSS this m4 m3
  generalize s.world = w5 at *
  go_wp2_with fail
  refine (append_full p D name w5 w0 _ _ inferInstance inferInstance hs A' out.length c' g f hn hg hf (by omega) (by rw [Hb.out]; exact h)).mono ?_
  rintro e w6 ⟨rfl, m6⟩
  go_wp2_with fail
  go_ret
  exact ⟨rfl, Mod.keep m6⟩
end
end Go.Proofs.YtcakdaadbpimaaaGreatDoor
