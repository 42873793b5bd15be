/- The walks of package journals' methods there, Add and Sync: contracts over the small separation logic; the conditions are in each theorem. -/
import Derived.Test.YtmpgnnjhgjfgaaaDoorWritten
import Derived.Test.YtmpgnnjhgjfgaaaDoorJourMore
import Derived.Test.YtmpgnnjhgjfgaaaDoorOpen
namespace Go.Proofs.YtmpgnnjhgjfgaaaDoor
open Go.RowKit Go.Sl
attribute [local go_sem] cell_of frozen_of zero_names
theorem swap_drop {w w0 : World} {A B C D : Asn} (m : Mod w w0 (A * (B * (C * D)))) : Mod w w0 (B * (A * D)) := Mod.drop (A := C) (m := Mod.to (m := m) (by ac_rfl))
/-- a journal in the heap -/
def jourA (j p : Nat) (name : ByteArray) (e : Nat) : Asn := blk j (.cells #[ptr p, .string name, .int .i64 (e : Int)] 67 (0, 0))
set_option maxHeartbeats 1000000 in
theorem jthere_spec (j p : Nat) (name : ByteArray) (e : Int) (w w0 : World) (S : Asn) (m : Mod w w0 S) [Has S j (.cells #[ptr p, .string name, .int .i64 e] 67 (0, 0))] :
    Calls Tryd.prog 35 #[ptr j] w fun e w' => e = .returned (.bool true) ∧ Mod w' w0 S := by
  go_enter Tryd.func35, Tryd.ntmps35
  go_wp2
  go_ret
  exact ⟨rfl, inferInstance⟩
section
variable (j p : Nat) (D : DiskSt) (name : ByteArray) (w w0 : World) (F : Asn) (B : Option Addr) (c : Nat) (rec : List UInt8)
set_option maxHeartbeats 2000000 in
theorem add_limit (en n : Nat) (m : Mod w w0 (diskA p D * (jourA j p name en * F))) (hl : 65536 < n) :
    Calls Tryd.prog 15 #[ptr j, .slice B n c] w fun e w' => e = .returned (.int .i64 3) ∧ Mod w' w0 (diskA p D * (jourA j p name en * F)) := by
  unfold jourA at m ⊢
  go_enter Tryd.func15, Tryd.ntmps15
  go_wp2_with (go_at_call 35; refine (jthere_spec j p name _ _ w0 _ inferInstance).mono ?_; rintro e w1 ⟨rfl, _m1⟩)
  go_ret
  exact ⟨rfl, _m1⟩
set_option maxHeartbeats 2000000 in
theorem add_none (en n : Nat) (m : Mod w w0 (diskA p D * (jourA j p name en * F))) (hs : name.size ≤ 9223372036854775807) (hl : n ≤ 65536) (hn : nameOk name = true) (hg : mget D.now name = none) :
    Calls Tryd.prog 15 #[ptr j, .slice B n c] w fun e w' => e = .returned (.int .i64 7) ∧ Mod w' w0 (diskA p D * (jourA j p name en * F)) := by
  unfold jourA at m ⊢
  go_enter Tryd.func15, Tryd.ntmps15
  go_wp2_with (go_at_call 35; refine (jthere_spec j p name _ _ w0 _ inferInstance).mono ?_; rintro e w1 ⟨rfl, _m1⟩)
  obtain ⟨SS, hSS, mSS⟩ : ∃ SS, SS = _ ∧ Mod w1 w0 SS := ⟨_, rfl, _m1⟩
  have hj : Has SS j (.cells #[ptr p, .string name, .int .i64 (en : Int)] 67 (0, 0)) := by rw [hSS]; infer_instance
  obtain ⟨FF, hp⟩ : ∃ FF, Take SS (diskA p) D FF := ⟨_, by rw [hSS]; infer_instance⟩
  have HC : Hid (∀ u, Mod u w0 SS → Calls Tryd.prog 16 #[ptr p, .string name] u fun e w' => e = .returned (.tuple #[.int .i64 0, .int .i64 7]) ∧ Mod w' w0 SS) := fun u mu => size_none p D name u w0 SS _ mu hp hs hn hg
  have HSS := Lib.hid hSS
  clear hSS
  have := Held.some mSS
  refine wp_region_mod mSS (by kernel_rfl) (by kernel_rfl) ?_
  repeat (go_big_quiet_step ((go_at_call 16; refine quiet_call (HC.out _ ?_); exact inferInstance)))
  refine wpQuiet_nil ?_
  rintro w3 ⟨s, rfl⟩
  have m3 := Mod.to (m := s.mod) HSS.out
  clear HC mSS hj hp HSS this
  generalize s.world = w3 at *
  go_wp2_with fail
  go_ret
  exact ⟨rfl, m3⟩
variable (g : Nat) (f : FileSt) (hs : name.size ≤ 9223372036854775807) (hn : nameOk name = true) (hg : mget D.now name = some g) (hf : fget D.files g = some f)
include hs hn hg hf
set_option maxHeartbeats 2000000 in
theorem add_state (en n : Nat) (m : Mod w w0 (diskA p D * (jourA j p name en * F))) (hl : n ≤ 65536) (he : f.bytes.length ≠ en) :
    Calls Tryd.prog 15 #[ptr j, .slice B n c] w fun e w' => e = .returned (.int .i64 9) ∧ Mod w' w0 (diskA p D * (jourA j p name en * F)) := by
  unfold jourA at m ⊢
  go_enter Tryd.func15, Tryd.ntmps15
  go_wp2_with (go_at_call 35; refine (jthere_spec j p name _ _ w0 _ inferInstance).mono ?_; rintro e w1 ⟨rfl, _m1⟩)
  obtain ⟨SS, hSS, mSS⟩ : ∃ SS, SS = _ ∧ Mod w1 w0 SS := ⟨_, rfl, _m1⟩
  have hj : Has SS j (.cells #[ptr p, .string name, .int .i64 (en : Int)] 67 (0, 0)) := by rw [hSS]; infer_instance
  obtain ⟨FF, hp⟩ : ∃ FF, Take SS (diskA p) D FF := ⟨_, by rw [hSS]; infer_instance⟩
  have HC : Hid (∀ u, Mod u w0 SS → Calls Tryd.prog 16 #[ptr p, .string name] u fun e w' => e = .returned (.tuple #[.int .i64 (f.bytes.length : Int), .int .i64 0]) ∧ Mod w' w0 SS) := fun u mu => size_some p D name g f u w0 SS _ mu hp hs hn hg hf
  have HSS := Lib.hid hSS
  clear hSS
  have := Held.some mSS
  refine wp_region_mod mSS (by kernel_rfl) (by kernel_rfl) ?_
  repeat (go_big_quiet_step ((go_at_call 16; refine quiet_call (HC.out _ ?_); exact inferInstance)))
  refine wpQuiet_nil ?_
  rintro w3 ⟨s, rfl⟩
  have m3 := Mod.to (m := s.mod) HSS.out
  clear HC mSS hj hp HSS this
  generalize s.world = w3 at *
  go_wp2_with fail
  go_ret
  exact ⟨rfl, m3⟩
set_option maxHeartbeats 4000000 in
theorem add_ok (m : Mod w w0 (diskA p D * (jourA j p name f.bytes.length * F))) (r : Reads F B rec.length (u8s rec)) (hc : rec.length ≤ c) (hl : rec.length ≤ 65536)
    (h1 : (writ f.bytes.length true rec).length ≤ leftOf D) (h2 : f.bytes.length + (writ f.bytes.length true rec).length ≤ 1048576) :
    Calls Tryd.prog 15 #[ptr j, .slice B rec.length c] w fun e w' => e = .returned (.int .i64 0) ∧
      Mod w' w0 (diskA p { D with files := fset D.files g ⟨f.bytes ++ writ f.bytes.length true rec, f.sure⟩ } * (jourA j p name (f.bytes ++ writ f.bytes.length true rec).length * F)) := by
  unfold jourA at m ⊢
  obtain ⟨out, hout⟩ : ∃ out, writ f.bytes.length true rec = out := ⟨_, rfl⟩
  obtain ⟨b, hb⟩ : ∃ b, f.bytes.length = b := ⟨_, rfl⟩
  have hW := written_spec b B rec.length c rec
  rw [hout] at h1 h2 ⊢
  rw [hb] at hout m h2
  rw [hout] at hW
  have HW := Lib.hid hW
  clear hW
  have Hb := Lib.hid hb
  clear hb hout
  go_enter Tryd.func15, Tryd.ntmps15
  go_wp2_with (go_at_call 35; refine (jthere_spec j p name _ _ w0 _ inferInstance).mono ?_; rintro e w1 ⟨rfl, _m1⟩)
  obtain ⟨SS, hSS, mSS⟩ : ∃ SS, SS = _ ∧ Mod w1 w0 SS := ⟨_, rfl, _m1⟩
  have hj : Has SS j (.cells #[ptr p, .string name, .int .i64 (b : Int)] 67 (0, 0)) := by rw [hSS]; infer_instance
  obtain ⟨FF, hp⟩ : ∃ FF, Take SS (diskA p) D FF := ⟨_, by rw [hSS]; infer_instance⟩
  have HC : Hid (∀ u, Mod u w0 SS → Calls Tryd.prog 16 #[ptr p, .string name] u fun e w' => e = .returned (.tuple #[.int .i64 (b : Int), .int .i64 0]) ∧ Mod w' w0 SS) := fun u mu => by have := size_some p D name g f u w0 SS _ mu hp hs hn hg hf; rw [Hb.out] at this; exact this
  have HSS := Lib.hid hSS
  clear hSS
  have := Held.some mSS
  refine wp_region_mod mSS (by kernel_rfl) (by kernel_rfl) ?_
  repeat (go_big_quiet_step ((go_at_call 16; refine quiet_call (HC.out _ ?_); exact inferInstance)))
  refine wpQuiet_nil ?_
  rintro w3 ⟨s, rfl⟩
  have m3 := Mod.to (m := s.mod) HSS.out
  clear HC mSS hj hp HSS this
  generalize s.world = w3 at *
  go_wp2_with fail
  refine (HW.out w3 w0 _ m3 inferInstance hc (by omega)).mono ?_
  rintro e w4 ⟨A', c', rfl, m4⟩
  go_wp2_with fail
  obtain ⟨SS, hSS, mSS⟩ : ∃ SS, SS = _ ∧ Mod w4 w0 SS := ⟨_, rfl, m4⟩
  have hj : Has SS j (.cells #[ptr p, .string name, .int .i64 (b : Int)] 67 (0, 0)) := by rw [hSS]; infer_instance
  have HSS := Lib.hid hSS
  clear hSS
  have := Held.some mSS
  refine wp_region_mod_tail 9 mSS (by kernel_rfl) (by kernel_rfl) ?_
  simp only [List.take_succ_cons, List.take_zero, List.drop_succ_cons, List.drop_zero]
  repeat (go_big_quiet_step (fail))
  refine wpQuiet_nil ?_
  rintro w5 ⟨s, rfl⟩
  have m5 := Mod.to (m := s.mod) HSS.out
  clear mSS hj HSS this m4 m3
  generalize s.world = w5 at *
  go_wp2_with fail
  refine (append_ok p D name w5 w0 _ _ inferInstance inferInstance hs A' c' out g f hn hg hf h1 (by have := Hb.out; omega)).mono ?_
  rintro e w6 ⟨rfl, m6⟩
  go_wp2_with fail
  go_ret
  have m7 : Mod (w6.setCell ⟨j, 2, none⟩ (.int .i64 ((b : Int) + (out.length : Int)))) w0 _ := inferInstance
  simp only [emp_sep] at m7
  have e : ((f.bytes ++ out).length : Int) = (b : Int) + (out.length : Int) := by rw [List.length_append, Hb.out]; omega
  rw [e]
  exact ⟨rfl, swap_drop m7⟩
end
section
variable (j p : Nat) (D : DiskSt) (name : ByteArray) (w w0 : World) (F : Asn)
set_option maxHeartbeats 2000000 in
theorem jsync_none (en : Nat) (m : Mod w w0 (diskA p D * (jourA j p name en * F))) (hs : name.size ≤ 9223372036854775807) (hn : nameOk name = true) (hg : mget D.now name = none) :
    Calls Tryd.prog 21 #[ptr j] w fun e w' => e = .returned (.int .i64 7) ∧ Mod w' w0 (diskA p D * (jourA j p name en * F)) := by
  unfold jourA at m ⊢
  go_enter Tryd.func21, Tryd.ntmps21
  go_wp2_with (go_at_call 35; refine (jthere_spec j p name _ _ w0 _ inferInstance).mono ?_; rintro e w1 ⟨rfl, _m1⟩)
  obtain ⟨SS, hSS, mSS⟩ : ∃ SS, SS = _ ∧ Mod w1 w0 SS := ⟨_, rfl, _m1⟩
  have hj : Has SS j (.cells #[ptr p, .string name, .int .i64 (en : Int)] 67 (0, 0)) := by rw [hSS]; infer_instance
  have HSS := Lib.hid hSS
  clear hSS
  have := Held.some mSS
  refine wp_region_mod_tail 8 mSS (by kernel_rfl) (by kernel_rfl) ?_
  simp only [List.take_succ_cons, List.take_zero, List.drop_succ_cons, List.drop_zero]
  repeat (go_big_quiet_step (fail))
  refine wpQuiet_nil ?_
  rintro w5 ⟨s, rfl⟩
  have m5 := Mod.to (m := s.mod) HSS.out
  clear mSS hj HSS this _m1
  generalize s.world = w5 at *
  go_wp2_with fail
  refine (sync_none p D name w5 w0 _ _ inferInstance inferInstance hs hn hg).mono ?_
  rintro e w6 ⟨rfl, m6⟩
  go_wp2_with fail
  go_ret
  exact ⟨rfl, m6⟩
set_option maxHeartbeats 2000000 in
theorem jsync_some (en : Nat) (m : Mod w w0 (diskA p D * (jourA j p name en * F))) (hs : name.size ≤ 9223372036854775807) (hn : nameOk name = true) (g : Nat) (f : FileSt) (hg : mget D.now name = some g) (hf : fget D.files g = some f) :
    Calls Tryd.prog 21 #[ptr j] w fun e w' => e = .returned (.int .i64 0) ∧ Mod w' w0 (diskA p { D with files := fset D.files g ⟨f.bytes, f.bytes.length⟩ } * (jourA j p name en * F)) := by
  unfold jourA at m ⊢
  go_enter Tryd.func21, Tryd.ntmps21
  go_wp2_with (go_at_call 35; refine (jthere_spec j p name _ _ w0 _ inferInstance).mono ?_; rintro e w1 ⟨rfl, _m1⟩)
  obtain ⟨SS, hSS, mSS⟩ : ∃ SS, SS = _ ∧ Mod w1 w0 SS := ⟨_, rfl, _m1⟩
  have hj : Has SS j (.cells #[ptr p, .string name, .int .i64 (en : Int)] 67 (0, 0)) := by rw [hSS]; infer_instance
  have HSS := Lib.hid hSS
  clear hSS
  have := Held.some mSS
  refine wp_region_mod_tail 8 mSS (by kernel_rfl) (by kernel_rfl) ?_
  simp only [List.take_succ_cons, List.take_zero, List.drop_succ_cons, List.drop_zero]
  repeat (go_big_quiet_step (fail))
  refine wpQuiet_nil ?_
  rintro w5 ⟨s, rfl⟩
  have m5 := Mod.to (m := s.mod) HSS.out
  clear mSS hj HSS this _m1
  generalize s.world = w5 at *
  go_wp2_with fail
  refine (sync_some p D name w5 w0 _ _ inferInstance inferInstance hs g f hn hg hf).mono ?_
  rintro e w6 ⟨rfl, m6⟩
  go_wp2_with fail
  go_ret
  exact ⟨rfl, by rw [emp_sep] at m6; exact m6⟩
end
end Go.Proofs.YtmpgnnjhgjfgaaaDoor
