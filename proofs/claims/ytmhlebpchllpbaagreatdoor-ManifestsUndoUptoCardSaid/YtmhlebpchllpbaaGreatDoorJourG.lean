/- The walks of package journals' methods there, Add and Sync: contracts over the small separation logic; the conditions are in each theorem.
The walk of package journals' function Open: contracts over the small separation logic; the conditions are in each theorem.
A journal on the one file of a disk: contracts of the journals' and the disk's functions there, and the walk of law 06's opened: the conditions are in each theorem. -/
import Derived.Test.YtmhlebpchllpbaaGreatDoorWrittenG
import Derived.Test.YtmhlebpchllpbaaGreatDoorJourPG
import Derived.Test.YtmhlebpchllpbaaGreatDoorNamesG
import Derived.Test.YtmhlebpchllpbaaGreatDoorReadG
namespace Go.Proofs.YtmhlebpchllpbaaGreatDoor
open Go.RowKit Go.Sl
attribute [local go_sem] cell_of frozen_of zero_names
theorem swap_drop {w w0 : World} {A B C D : Asn} (m : Mod w w0 (A * (B * (C * D)))) : Mod w w0 (B * (A * D)) := Mod.drop (A := C) (m := Mod.to (m := m) (by ac_rfl))
/-- a journal in the heap -/
def jourA (j p : Nat) (name : ByteArray) (e : Nat) : Asn := blk j (.cells #[ptr p, .string name, .int .i64 (e : Int)] 107 (0, 0))
set_option maxHeartbeats 1000000 in
theorem jthere_spec (j p : Nat) (name : ByteArray) (e : Int) (w w0 : World) (S : Asn) (m : Mod w w0 S) [Has S j (.cells #[ptr p, .string name, .int .i64 e] 107 (0, 0))] :
    Calls Tryz.prog 84 #[ptr j] w fun e w' => e = .returned (.bool true) ∧ Mod w' w0 S := by
  go_enter Tryz.func84, Tryz.ntmps84
  go_wp2
  go_ret
  exact ⟨rfl, inferInstance⟩
section
variable (j p : Nat) (D : DiskSt) (name : ByteArray) (w w0 : World) (F : Asn) (B : Option Addr) (c : Nat) (rec : List UInt8)
set_option maxHeartbeats 2000000 in
theorem add_limit (en n : Nat) (m : Mod w w0 (diskA p D * (jourA j p name en * F))) (hl : 65536 < n) :
    Calls Tryz.prog 33 #[ptr j, .slice B n c] w fun e w' => e = .returned (.int .i64 3) ∧ Mod w' w0 (diskA p D * (jourA j p name en * F)) := by
  unfold jourA at m ⊢
  go_enter Tryz.func33, Tryz.ntmps33
  go_wp2_with (go_at_call 84; refine (jthere_spec j p name _ _ w0 _ inferInstance).mono ?_; rintro e w1 ⟨rfl, _m1⟩)
  go_ret
  exact ⟨rfl, _m1⟩
set_option maxHeartbeats 2000000 in
theorem add_none (en n : Nat) (m : Mod w w0 (diskA p D * (jourA j p name en * F))) (hs : name.size ≤ 9223372036854775807) (hl : n ≤ 65536) (hn : nameOk name = true) (hg : mget D.now name = none) :
    Calls Tryz.prog 33 #[ptr j, .slice B n c] w fun e w' => e = .returned (.int .i64 7) ∧ Mod w' w0 (diskA p D * (jourA j p name en * F)) := by
  unfold jourA at m ⊢
  go_enter Tryz.func33, Tryz.ntmps33
  go_wp2_with (go_at_call 84; refine (jthere_spec j p name _ _ w0 _ inferInstance).mono ?_; rintro e w1 ⟨rfl, _m1⟩)
  obtain ⟨SS, hSS, mSS⟩ : ∃ SS, SS = _ ∧ Mod w1 w0 SS := ⟨_, rfl, _m1⟩
  have hj : Has SS j (.cells #[ptr p, .string name, .int .i64 (en : Int)] 107 (0, 0)) := by rw [hSS]; infer_instance
  obtain ⟨FF, hp⟩ : ∃ FF, Take SS (diskA p) D FF := ⟨_, by rw [hSS]; infer_instance⟩
  have HC : Hid (∀ u, Mod u w0 SS → Calls Tryz.prog 13 #[ptr p, .string name] u fun e w' => e = .returned (.tuple #[.int .i64 0, .int .i64 7]) ∧ Mod w' w0 SS) := fun u mu => size_none p D name u w0 SS _ mu hp hs hn hg
  have HSS := Lib.hid hSS
  clear hSS
  have := Held.some mSS
  refine wp_region_mod mSS (by kernel_rfl) (by kernel_rfl) ?_
  repeat (go_big_quiet_step ((go_at_call 13; refine quiet_call (HC.out _ ?_); exact inferInstance)))
  refine wpQuiet_nil ?_
  rintro w3 ⟨s, rfl⟩
  have m3 := Mod.to (m := s.mod) HSS.out
  clear HC mSS hj hp HSS this
  generalize s.world = w3 at *
  go_wp2_with fail
  go_ret
  exact ⟨rfl, m3⟩
variable (g : Nat) (f : FileSt) (hs : name.size ≤ 9223372036854775807) (hn : nameOk name = true) (hg : mget D.now name = some g) (hf : fget D.files g = some f)
include hs hn hg hf
set_option maxHeartbeats 2000000 in
theorem add_state (en n : Nat) (m : Mod w w0 (diskA p D * (jourA j p name en * F))) (hl : n ≤ 65536) (he : f.bytes.length ≠ en) :
    Calls Tryz.prog 33 #[ptr j, .slice B n c] w fun e w' => e = .returned (.int .i64 9) ∧ Mod w' w0 (diskA p D * (jourA j p name en * F)) := by
  unfold jourA at m ⊢
  go_enter Tryz.func33, Tryz.ntmps33
  go_wp2_with (go_at_call 84; refine (jthere_spec j p name _ _ w0 _ inferInstance).mono ?_; rintro e w1 ⟨rfl, _m1⟩)
  obtain ⟨SS, hSS, mSS⟩ : ∃ SS, SS = _ ∧ Mod w1 w0 SS := ⟨_, rfl, _m1⟩
  have hj : Has SS j (.cells #[ptr p, .string name, .int .i64 (en : Int)] 107 (0, 0)) := by rw [hSS]; infer_instance
  obtain ⟨FF, hp⟩ : ∃ FF, Take SS (diskA p) D FF := ⟨_, by rw [hSS]; infer_instance⟩
  have HC : Hid (∀ u, Mod u w0 SS → Calls Tryz.prog 13 #[ptr p, .string name] u fun e w' => e = .returned (.tuple #[.int .i64 (f.bytes.length : Int), .int .i64 0]) ∧ Mod w' w0 SS) := fun u mu => size_some p D name g f u w0 SS _ mu hp hs hn hg hf
  have HSS := Lib.hid hSS
  clear hSS
  have := Held.some mSS
  refine wp_region_mod mSS (by kernel_rfl) (by kernel_rfl) ?_
  repeat (go_big_quiet_step ((go_at_call 13; refine quiet_call (HC.out _ ?_); exact inferInstance)))
  refine wpQuiet_nil ?_
  rintro w3 ⟨s, rfl⟩
  have m3 := Mod.to (m := s.mod) HSS.out
  clear HC mSS hj hp HSS this
  generalize s.world = w3 at *
  go_wp2_with fail
  go_ret
  exact ⟨rfl, m3⟩
set_option maxHeartbeats 4000000 in
theorem add_ok (m : Mod w w0 (diskA p D * (jourA j p name f.bytes.length * F))) (r : Reads F B rec.length (u8s rec)) (hc : rec.length ≤ c) (hl : rec.length ≤ 65536)
    (h1 : (writ f.bytes.length true rec).length ≤ leftOf D) (h2 : f.bytes.length + (writ f.bytes.length true rec).length ≤ 1048576) :
    Calls Tryz.prog 33 #[ptr j, .slice B rec.length c] w fun e w' => e = .returned (.int .i64 0) ∧
      Mod w' w0 (diskA p { D with files := fset D.files g ⟨f.bytes ++ writ f.bytes.length true rec, f.sure⟩ } * (jourA j p name (f.bytes ++ writ f.bytes.length true rec).length * F)) := by
  unfold jourA at m ⊢
  obtain ⟨out, hout⟩ : ∃ out, writ f.bytes.length true rec = out := ⟨_, rfl⟩
  obtain ⟨b, hb⟩ : ∃ b, f.bytes.length = b := ⟨_, rfl⟩
  have hW := written_spec b B rec.length c rec
  rw [hout] at h1 h2 ⊢
  rw [hb] at hout m h2
  rw [hout] at hW
  have HW := Lib.hid hW
  clear hW
  have Hb := Lib.hid hb
  clear hb hout
  go_enter Tryz.func33, Tryz.ntmps33
  go_wp2_with (go_at_call 84; refine (jthere_spec j p name _ _ w0 _ inferInstance).mono ?_; rintro e w1 ⟨rfl, _m1⟩)
  obtain ⟨SS, hSS, mSS⟩ : ∃ SS, SS = _ ∧ Mod w1 w0 SS := ⟨_, rfl, _m1⟩
  have hj : Has SS j (.cells #[ptr p, .string name, .int .i64 (b : Int)] 107 (0, 0)) := by rw [hSS]; infer_instance
  obtain ⟨FF, hp⟩ : ∃ FF, Take SS (diskA p) D FF := ⟨_, by rw [hSS]; infer_instance⟩
  have HC : Hid (∀ u, Mod u w0 SS → Calls Tryz.prog 13 #[ptr p, .string name] u fun e w' => e = .returned (.tuple #[.int .i64 (b : Int), .int .i64 0]) ∧ Mod w' w0 SS) := fun u mu => by have := size_some p D name g f u w0 SS _ mu hp hs hn hg hf; rw [Hb.out] at this; exact this
  have HSS := Lib.hid hSS
  clear hSS
  have := Held.some mSS
  refine wp_region_mod mSS (by kernel_rfl) (by kernel_rfl) ?_
  repeat (go_big_quiet_step ((go_at_call 13; refine quiet_call (HC.out _ ?_); exact inferInstance)))
  refine wpQuiet_nil ?_
  rintro w3 ⟨s, rfl⟩
  have m3 := Mod.to (m := s.mod) HSS.out
  clear HC mSS hj hp HSS this
  generalize s.world = w3 at *
  go_wp2_with fail
  refine (HW.out w3 w0 _ m3 inferInstance hc (by omega)).mono ?_
  rintro e w4 ⟨A', c', rfl, m4⟩
  go_wp2_with fail
  obtain ⟨SS, hSS, mSS⟩ : ∃ SS, SS = _ ∧ Mod w4 w0 SS := ⟨_, rfl, m4⟩
  have hj : Has SS j (.cells #[ptr p, .string name, .int .i64 (b : Int)] 107 (0, 0)) := by rw [hSS]; infer_instance
  have HSS := Lib.hid hSS
  clear hSS
  have := Held.some mSS
  refine wp_region_mod_tail 9 mSS (by kernel_rfl) (by kernel_rfl) ?_
  simp only [List.take_succ_cons, List.take_zero, List.drop_succ_cons, List.drop_zero]
  repeat (go_big_quiet_step (fail))
  refine wpQuiet_nil ?_
  rintro w5 ⟨s, rfl⟩
  have m5 := Mod.to (m := s.mod) HSS.out
  clear mSS hj HSS this m4 m3
  generalize s.world = w5 at *
  go_wp2_with fail
  refine (append_ok p D name w5 w0 _ _ inferInstance inferInstance hs A' c' out g f hn hg hf h1 (by have := Hb.out; omega)).mono ?_
  rintro e w6 ⟨rfl, m6⟩
  go_wp2_with fail
  go_ret
  have m7 : Mod (w6.setCell ⟨j, 2, none⟩ (.int .i64 ((b : Int) + (out.length : Int)))) w0 _ := inferInstance
  simp only [emp_sep] at m7
  have e : ((f.bytes ++ out).length : Int) = (b : Int) + (out.length : Int) := by rw [List.length_append, Hb.out]; omega
  rw [e]
  exact ⟨rfl, swap_drop m7⟩
end
section
variable (j p : Nat) (D : DiskSt) (name : ByteArray) (w w0 : World) (F : Asn)
set_option maxHeartbeats 2000000 in
theorem jsync_none (en : Nat) (m : Mod w w0 (diskA p D * (jourA j p name en * F))) (hs : name.size ≤ 9223372036854775807) (hn : nameOk name = true) (hg : mget D.now name = none) :
    Calls Tryz.prog 34 #[ptr j] w fun e w' => e = .returned (.int .i64 7) ∧ Mod w' w0 (diskA p D * (jourA j p name en * F)) := by
  unfold jourA at m ⊢
  go_enter Tryz.func34, Tryz.ntmps34
  go_wp2_with (go_at_call 84; refine (jthere_spec j p name _ _ w0 _ inferInstance).mono ?_; rintro e w1 ⟨rfl, _m1⟩)
  obtain ⟨SS, hSS, mSS⟩ : ∃ SS, SS = _ ∧ Mod w1 w0 SS := ⟨_, rfl, _m1⟩
  have hj : Has SS j (.cells #[ptr p, .string name, .int .i64 (en : Int)] 107 (0, 0)) := by rw [hSS]; infer_instance
  have HSS := Lib.hid hSS
  clear hSS
  have := Held.some mSS
  refine wp_region_mod_tail 8 mSS (by kernel_rfl) (by kernel_rfl) ?_
  simp only [List.take_succ_cons, List.take_zero, List.drop_succ_cons, List.drop_zero]
  repeat (go_big_quiet_step (fail))
  refine wpQuiet_nil ?_
  rintro w5 ⟨s, rfl⟩
  have m5 := Mod.to (m := s.mod) HSS.out
  clear mSS hj HSS this _m1
  generalize s.world = w5 at *
  go_wp2_with fail
  refine (sync_none p D name w5 w0 _ _ inferInstance inferInstance hs hn hg).mono ?_
  rintro e w6 ⟨rfl, m6⟩
  go_wp2_with fail
  go_ret
  exact ⟨rfl, m6⟩
set_option maxHeartbeats 2000000 in
theorem jsync_some (en : Nat) (m : Mod w w0 (diskA p D * (jourA j p name en * F))) (hs : name.size ≤ 9223372036854775807) (hn : nameOk name = true) (g : Nat) (f : FileSt) (hg : mget D.now name = some g) (hf : fget D.files g = some f) :
    Calls Tryz.prog 34 #[ptr j] w fun e w' => e = .returned (.int .i64 0) ∧ Mod w' w0 (diskA p { D with files := fset D.files g ⟨f.bytes, f.bytes.length⟩ } * (jourA j p name en * F)) := by
  unfold jourA at m ⊢
  go_enter Tryz.func34, Tryz.ntmps34
  go_wp2_with (go_at_call 84; refine (jthere_spec j p name _ _ w0 _ inferInstance).mono ?_; rintro e w1 ⟨rfl, _m1⟩)
  obtain ⟨SS, hSS, mSS⟩ : ∃ SS, SS = _ ∧ Mod w1 w0 SS := ⟨_, rfl, _m1⟩
  have hj : Has SS j (.cells #[ptr p, .string name, .int .i64 (en : Int)] 107 (0, 0)) := by rw [hSS]; infer_instance
  have HSS := Lib.hid hSS
  clear hSS
  have := Held.some mSS
  refine wp_region_mod_tail 8 mSS (by kernel_rfl) (by kernel_rfl) ?_
  simp only [List.take_succ_cons, List.take_zero, List.drop_succ_cons, List.drop_zero]
  repeat (go_big_quiet_step (fail))
  refine wpQuiet_nil ?_
  rintro w5 ⟨s, rfl⟩
  have m5 := Mod.to (m := s.mod) HSS.out
  clear mSS hj HSS this _m1
  generalize s.world = w5 at *
  go_wp2_with fail
  refine (sync_some p D name w5 w0 _ _ inferInstance inferInstance hs g f hn hg hf).mono ?_
  rintro e w6 ⟨rfl, m6⟩
  go_wp2_with fail
  go_ret
  exact ⟨rfl, by rw [emp_sep] at m6; exact m6⟩
end
end Go.Proofs.YtmhlebpchllpbaaGreatDoor
namespace Go.Proofs.YtmhlebpchllpbaaGreatDoor
open Go.RowKit Go.Sl
attribute [local go_sem] cell_of frozen_of zero_names
set_option maxHeartbeats 1000000 in
theorem clip_spec (A : Option Addr) (n c : Nat) (hc : n ≤ c) (w w0 : World) (S : Asn) (m : Mod w w0 S) : Calls Tryz.prog 61 #[.slice A n c] w fun e w' => e = .returned (.slice A n n) ∧ Mod w' w0 S := by
  go_enter Tryz.func61, Tryz.ntmps61
  go_wp2
  go_ret
  exact ⟨rfl, m⟩
theorem RecsIn.reads {R : Asn} {xs : List Value} {rs : List (List UInt8)} (r : RecsIn R xs rs) (A : Option Addr) (c : Nat) : ReadsRecs (rowA 63 1 (.slice A rs.length c) rs.length xs * R) A rs.length rs := by
  obtain ⟨hs, h1, rfl, _, h3⟩ := r
  exact ⟨rfl, hs, h1, inferInstance, fun i a b => ⟨reads_lift inferInstance (h3 i a b).1, (h3 i a b).2⟩⟩
theorem open_shape {w w0 : World} {A B C D R F : Asn} (m : Mod w w0 (A * (B * (R * (C * (D * F)))))) : Mod w w0 (D * (A * ((B * R) * F))) := Mod.drop (A := C) (m := Mod.to (m := m) (by ac_rfl))
/-- The records that Open hands out: a row of slices, and each one's own row. -/
def RecsOwn (R : Asn) (A : Option Addr) (rs : List (List UInt8)) : Prop := ∃ (c : Nat) (xs : List Value) (G : Asn), rs.length ≤ c ∧ RecsIn G xs rs ∧ R = rowA 63 1 (.slice A rs.length c) rs.length xs * G
theorem RecsOwn.reads {R : Asn} {A : Option Addr} {rs : List (List UInt8)} (r : RecsOwn R A rs) : ReadsRecs R A rs.length rs := by
  obtain ⟨c, xs, G, _, h, rfl⟩ := r
  exact h.reads A c
def OpenOwn (p : Nat) (D : DiskSt) (name : ByteArray) (F : Asn) (rd : List (List UInt8) × Nat) (w0 : World) (e : Ending) (w' : World) : Prop :=
  ∃ j A R, e = .returned (.tuple #[ptr j, .slice A rd.1.length rd.1.length, .int .i64 0]) ∧ RecsOwn R A rd.1 ∧ Mod w' w0 (diskA p D * (jourA j p name rd.2 * (R * F)))
def OpenSays (p : Nat) (D : DiskSt) (name : ByteArray) (F : Asn) (rd : List (List UInt8) × Nat) (w0 : World) (e : Ending) (w' : World) : Prop :=
  ∃ j A R, e = .returned (.tuple #[ptr j, .slice A rd.1.length rd.1.length, .int .i64 0]) ∧ ReadsRecs R A rd.1.length rd.1 ∧ Mod w' w0 (diskA p D * (jourA j p name rd.2 * (R * F)))
theorem OpenOwn.says {p : Nat} {D : DiskSt} {name : ByteArray} {F : Asn} {rd : List (List UInt8) × Nat} {w0 : World} {e : Ending} {w' : World} (h : OpenOwn p D name F rd w0 e w') : OpenSays p D name F rd w0 e w' := by
  obtain ⟨j, A, R, h1, h2, h3⟩ := h
  exact ⟨j, A, R, h1, h2.reads, h3⟩
def NewSays (p : Nat) (D : DiskSt) (name : ByteArray) (F : Asn) (w0 : World) (e : Ending) (w' : World) : Prop := ∃ g, fget D.files g = none ∧ OpenSays p (created D name g) name F ([], 0) w0 e w'
def NewOwn (p : Nat) (D : DiskSt) (name : ByteArray) (F : Asn) (w0 : World) (e : Ending) (w' : World) : Prop := ∃ g, fget D.files g = none ∧ OpenOwn p (created D name g) name F ([], 0) w0 e w'
theorem mget_fresh {α : Type} {L : List (ByteArray × α)} {s : ByteArray} (h : mget L s = none) (v : α) : mget (mput L s v) s = some v := by
  rw [mput_new h]
  unfold mget at h ⊢
  cases hf : L.find? (fun p => decide (p.1 = s)) with
  | none => rw [List.find?_append, hf]; simp
  | some x => rw [hf] at h; cases h
theorem readAll_nil : readAll [] = ([], 0) := readAll_journal []
section
variable (p : Nat) (D : DiskSt) (name : ByteArray) (w w0 : World) (F : Asn) (m : Mod w w0 (diskA p D * F)) (hs : name.size ≤ 9223372036854775807)
include m hs
set_option maxHeartbeats 4000000 in
theorem jopen_arg (hn : nameOk name = false) :
    Calls Tryz.prog 25 #[ptr p, .string name] w fun e w' => e = .returned (.tuple #[.pointer none, .slice none 0 0, .int .i64 1]) ∧ Mod w' w0 (diskA p D * F) := by
  go_enter Tryz.func25, Tryz.ntmps25
  go_wp2_with fail
  refine (size_arg p D name _ w0 _ _ m inferInstance hs hn).mono ?_
  rintro e w2 ⟨rfl, m2⟩
  go_wp2_with fail
  go_ret3
  exact ⟨rfl, m2⟩
set_option maxHeartbeats 4000000 in
theorem jopen_own (g : Nat) (f : FileSt) (hn : nameOk name = true) (hg : mget D.now name = some g) (hf : fget D.files g = some f) (hb : f.bytes.length ≤ 1048576) :
    Calls Tryz.prog 25 #[ptr p, .string name] w (OpenOwn p D name F (readAll f.bytes) w0) := by
  obtain ⟨rd, hrd⟩ : ∃ rd, readAll f.bytes = rd := ⟨_, rfl⟩
  rw [hrd]
  have Hrd := Lib.hid hrd
  clear hrd
  go_enter Tryz.func25, Tryz.ntmps25
  go_wp2_with fail
  refine (size_some p D name g f _ w0 _ _ m inferInstance hs hn hg hf).mono ?_
  rintro e w2 ⟨rfl, m2⟩
  go_wp2_with fail
  refine (read_ok p D name w2 w0 _ _ m2 inferInstance hs 0 f.bytes.length g f hn hg hf (by omega)).mono ?_
  rintro e w3 ⟨A1, c1, rfl, m3⟩
  rw [List.drop_zero, List.take_length] at m3
  have hle := row_le (m := m3)
  clear m2
  go_wp2_with fail
  have HR := read_spec A1 f.bytes.length c1 f.bytes (w3.alloc (.cells #[ptr p, .string name, .int .i64 0] 107)) w0 _ inferInstance inferInstance hle (by omega)
  rw [Hrd.out] at HR
  refine HR.mono ?_
  rintro e w4 ⟨A2, c2, xs, R, rfl, hr, m4⟩
  have hle2 := row_le (m := m4)
  go_wp2_with fail
  have m5 : Mod (w4.setCell ⟨w3.heap.size, 2, none⟩ (.int .i64 (rd.2 : Int))) w0 _ := inferInstance
  simp only [emp_sep] at m5
  refine (clip_spec A2 rd.1.length c2 hle2 _ w0 _ m5).mono ?_
  rintro e w6 ⟨rfl, m6⟩
  go_wp2_with fail
  go_ret3
  exact ⟨w3.heap.size, A2, _, rfl, ⟨c2, xs, R, hle2, hr, rfl⟩, open_shape m6⟩
theorem jopen_there (g : Nat) (f : FileSt) (hn : nameOk name = true) (hg : mget D.now name = some g) (hf : fget D.files g = some f) (hb : f.bytes.length ≤ 1048576) :
    Calls Tryz.prog 25 #[ptr p, .string name] w (OpenSays p D name F (readAll f.bytes) w0) :=
  (jopen_own p D name w w0 F m hs g f hn hg hf hb).mono fun _ _ h => h.says
set_option maxHeartbeats 4000000 in
theorem jopen_fresh (hn : nameOk name = true) (hg : mget D.now name = none) (hroom : D.now.length < 64) :
    Calls Tryz.prog 25 #[ptr p, .string name] w (NewOwn p D name F w0) := by
  go_enter Tryz.func25, Tryz.ntmps25
  go_wp2_with fail
  refine (size_none p D name _ w0 _ _ m inferInstance hs hn hg).mono ?_
  rintro e w2 ⟨rfl, m2⟩
  go_wp2_with fail
  refine (create_ok p D name w2 w0 _ _ m2 inferInstance hs hn hg hroom).mono ?_
  rintro e w3 ⟨g, rfl, hgf, m3⟩
  go_wp2_with fail
  refine (read_ok p (created D name g) name w3 w0 _ _ m3 inferInstance hs 0 0 g ⟨[], 0⟩ hn (mget_fresh hg g) (by simp [created, fget]) (by simp)).mono ?_
  rintro e w4 ⟨A1, c1, rfl, m4⟩
  go_wp2_with fail
  have HR := read_spec A1 0 c1 [] (w4.alloc (.cells #[ptr p, .string name, .int .i64 0] 107)) w0 _ inferInstance inferInstance (by omega) (by omega)
  rw [readAll_nil] at HR
  refine HR.mono ?_
  rintro e w5 ⟨A2, c2, xs, R, rfl, hr, m5⟩
  have hle2 := row_le (m := m5)
  go_wp2_with fail
  have m6 : Mod (w5.setCell ⟨w4.heap.size, 2, none⟩ (.int .i64 0)) w0 _ := inferInstance
  simp only [emp_sep] at m6
  refine (clip_spec A2 0 c2 hle2 _ w0 _ m6).mono ?_
  rintro e w7 ⟨rfl, m7⟩
  go_wp2_with fail
  go_ret3
  exact ⟨g, hgf, w4.heap.size, A2, _, rfl, ⟨c2, xs, R, hle2, hr, rfl⟩, open_shape m7⟩
theorem jopen_new (hn : nameOk name = true) (hg : mget D.now name = none) (hroom : D.now.length < 64) :
    Calls Tryz.prog 25 #[ptr p, .string name] w (NewSays p D name F w0) :=
  (jopen_fresh p D name w w0 F m hs hn hg hroom).mono fun _ _ ⟨g, h1, h2⟩ => ⟨g, h1, h2.says⟩
end
end Go.Proofs.YtmhlebpchllpbaaGreatDoor
namespace Go.Proofs.YtmhlebpchllpbaaGreatDoor
open Go.RowKit Go.Sl
attribute [local go_sem] cell_of frozen_of zero_names conv_const conv_bs conv_nil make_bytes
/-- the name "j" -/
def nj : ByteArray := ⟨#[106]⟩
theorem ok_j : nameOk nj = true := by unfold nj; rw [nameOk_eq]; decide
theorem size_j : nj.size ≤ 9223372036854775807 := by decide
/-- The laws' disk, with the one file "j". -/
abbrev jay (g : Nat) (b : List UInt8) (su : Nat) (s : Dir) : DiskSt := one 1000000 nj g ⟨b, su⟩ s
section
variable (p g j : Nat) (b : List UInt8) (su : Nat) (sd : Dir) (w w0 : World) (F S : Asn)
theorem jay_size (m : Mod w w0 S) (t : Take S (diskA p) (jay g b su sd) F) : Calls Tryz.prog 13 #[ptr p, .string nj] w fun e w' => e = .returned (.tuple #[.int .i64 (b.length : Int), .int .i64 0]) ∧ Mod w' w0 S :=
  size_some p (jay g b su sd) nj g ⟨b, su⟩ w w0 S F m t size_j ok_j (mget_one _ _) (fget_one _ _)
theorem jay_add (B : Option Addr) (c : Nat) (rec : List UInt8) (m : Mod w w0 (diskA p (jay g b su sd) * (jourA j p nj b.length * F))) (r : Reads F B rec.length (u8s rec)) (hc : rec.length ≤ c) (hl : rec.length ≤ 65536)
    (h : b.length + (writ b.length true rec).length ≤ 1000000) :
    Calls Tryz.prog 33 #[ptr j, .slice B rec.length c] w fun e w' => e = .returned (.int .i64 0) ∧
      Mod w' w0 (diskA p (jay g (b ++ writ b.length true rec) su sd) * (jourA j p nj (b ++ writ b.length true rec).length * F)) := by
  have h1 : (writ b.length true rec).length ≤ 1000000 - b.length := by omega
  have h2 : b.length + (writ b.length true rec).length ≤ 1048576 := by omega
  have := add_ok j p (jay g b su sd) nj w w0 F B c rec g ⟨b, su⟩ size_j ok_j (mget_one _ _) (fget_one _ _) m r hc hl (by rw [left_one]; exact h1) h2
  refine this.mono ?_
  rintro e w' ⟨h1, h2⟩
  rw [append_one] at h2
  exact ⟨h1, h2⟩
theorem jay_add_state (en : Nat) (B : Option Addr) (n c : Nat) (m : Mod w w0 (diskA p (jay g b su sd) * (jourA j p nj en * F))) (hl : n ≤ 65536) (he : b.length ≠ en) :
    Calls Tryz.prog 33 #[ptr j, .slice B n c] w fun e w' => e = .returned (.int .i64 9) ∧ Mod w' w0 (diskA p (jay g b su sd) * (jourA j p nj en * F)) :=
  add_state j p (jay g b su sd) nj w w0 F B c g ⟨b, su⟩ size_j ok_j (mget_one _ _) (fget_one _ _) en n m hl he
theorem jay_open (m : Mod w w0 (diskA p (jay g b su sd) * F)) (hb : b.length ≤ 1048576) : Calls Tryz.prog 25 #[ptr p, .string nj] w (OpenSays p (jay g b su sd) nj F (readAll b) w0) :=
  jopen_there p (jay g b su sd) nj w w0 F m size_j g ⟨b, su⟩ ok_j (mget_one _ _) (fget_one _ _) hb
theorem jay_sync (en : Nat) (m : Mod w w0 (diskA p (jay g b su sd) * (jourA j p nj en * F))) :
    Calls Tryz.prog 34 #[ptr j] w fun e w' => e = .returned (.int .i64 0) ∧ Mod w' w0 (diskA p (jay g b b.length sd) * (jourA j p nj en * F)) := by
  have := jsync_some j p (jay g b su sd) nj w w0 F en m size_j ok_j g ⟨b, su⟩ (mget_one _ _) (fget_one _ _)
  refine this.mono ?_
  rintro e w' ⟨h1, h2⟩
  rw [append_one] at h2
  exact ⟨h1, h2⟩
end
theorem jay_append (p g : Nat) (b : List UInt8) (su : Nat) (sd : Dir) (w w0 : World) (F S : Asn) (m : Mod w w0 S) (t : Take S (diskA p) (jay g b su sd) F) (B : Option Addr) (c : Nat) (x : List UInt8) (r : Reads F B x.length (u8s x)) (h : b.length + x.length ≤ 1000000) :
    Calls Tryz.prog 50 #[ptr p, .string nj, .slice B x.length c] w fun e w' => e = .returned (.int .i64 0) ∧ Mod w' w0 (diskA p (jay g (b ++ x) su sd) * F) := by
  have := append_ok p (jay g b su sd) nj w w0 S F m t size_j B c x g ⟨b, su⟩ ok_j (mget_one _ _) (fget_one _ _) (by rw [left_one]; show _ ≤ 1000000 - b.length; omega) (by show b.length + _ ≤ _; omega)
  refine this.mono ?_
  rintro e w' ⟨h1, h2⟩
  rw [append_one] at h2
  exact ⟨h1, h2⟩
def OpenedSays (w0 : World) (S : Asn) (e : Ending) (w' : World) : Prop := ∃ p j g, e = .returned (.tuple #[ptr p, ptr j]) ∧ Mod w' w0 (diskA p (jay g [] 0 []) * (jourA j p nj 0 * S))
end Go.Proofs.YtmhlebpchllpbaaGreatDoor
