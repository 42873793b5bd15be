/- The walk of package journals' function Open: contracts over the small separation logic; the conditions are in each theorem. -/
import Derived.Test.YtmpgnnjhgjfgaaaDoorJour
import Derived.Test.YtmpgnnjhgjfgaaaDoorReadW
namespace Go.Proofs.YtmpgnnjhgjfgaaaDoor
open Go.RowKit Go.Sl
attribute [local go_sem] cell_of frozen_of zero_names
set_option maxHeartbeats 1000000 in
theorem clip_spec (A : Option Addr) (n c : Nat) (hc : n ≤ c) (w w0 : World) (S : Asn) (m : Mod w w0 S) : Calls Tryd.prog 33 #[.slice A n c] w fun e w' => e = .returned (.slice A n n) ∧ Mod w' w0 S := by
  go_enter Tryd.func33, Tryd.ntmps33
  go_wp2
  go_ret
  exact ⟨rfl, m⟩
theorem RecsIn.reads {R : Asn} {xs : List Value} {rs : List (List UInt8)} (r : RecsIn R xs rs) (A : Option Addr) (c : Nat) : ReadsRecs (rowA 35 1 (.slice A rs.length c) rs.length xs * R) A rs.length rs := by
  obtain ⟨hs, h1, rfl, h3⟩ := r
  exact ⟨rfl, hs, h1, inferInstance, fun i a b => ⟨reads_lift inferInstance (h3 i a b).1, (h3 i a b).2⟩⟩
theorem open_shape {w w0 : World} {A B C D R F : Asn} (m : Mod w w0 (A * (B * (R * (C * (D * F)))))) : Mod w w0 (D * (A * ((B * R) * F))) := Mod.drop (A := C) (m := Mod.to (m := m) (by ac_rfl))
def OpenSays (p : Nat) (D : DiskSt) (name : ByteArray) (F : Asn) (rd : List (List UInt8) × Nat) (w0 : World) (e : Ending) (w' : World) : Prop :=
  ∃ j A R, e = .returned (.tuple #[ptr j, .slice A rd.1.length rd.1.length, .int .i64 0]) ∧ ReadsRecs R A rd.1.length rd.1 ∧ Mod w' w0 (diskA p D * (jourA j p name rd.2 * (R * F)))
def NewSays (p : Nat) (D : DiskSt) (name : ByteArray) (F : Asn) (w0 : World) (e : Ending) (w' : World) : Prop := ∃ g, fget D.files g = none ∧ OpenSays p (created D name g) name F ([], 0) w0 e w'
theorem mget_fresh {α : Type} {L : List (ByteArray × α)} {s : ByteArray} (h : mget L s = none) (v : α) : mget (mput L s v) s = some v := by
  rw [mput_new h]
  unfold mget at h ⊢
  cases hf : L.find? (fun p => decide (p.1 = s)) with
  | none => rw [List.find?_append, hf]; simp
  | some x => rw [hf] at h; cases h
theorem readAll_nil : readAll [] = ([], 0) := readAll_journal []
section
variable (p : Nat) (D : DiskSt) (name : ByteArray) (w w0 : World) (F : Asn) (m : Mod w w0 (diskA p D * F)) (hs : name.size ≤ 9223372036854775807)
include m hs
set_option maxHeartbeats 4000000 in
theorem jopen_arg (hn : nameOk name = false) :
    Calls Tryd.prog 13 #[ptr p, .string name] w fun e w' => e = .returned (.tuple #[.pointer none, .slice none 0 0, .int .i64 1]) ∧ Mod w' w0 (diskA p D * F) := by
  go_enter Tryd.func13, Tryd.ntmps13
  go_wp2_with fail
  refine (size_arg p D name _ w0 _ _ m inferInstance hs hn).mono ?_
  rintro e w2 ⟨rfl, m2⟩
  go_wp2_with fail
  go_ret3
  exact ⟨rfl, m2⟩
set_option maxHeartbeats 4000000 in
theorem jopen_there (g : Nat) (f : FileSt) (hn : nameOk name = true) (hg : mget D.now name = some g) (hf : fget D.files g = some f) (hb : f.bytes.length ≤ 1048576) :
    Calls Tryd.prog 13 #[ptr p, .string name] w (OpenSays p D name F (readAll f.bytes) w0) := by
  obtain ⟨rd, hrd⟩ : ∃ rd, readAll f.bytes = rd := ⟨_, rfl⟩
  rw [hrd]
  have Hrd := Lib.hid hrd
  clear hrd
  go_enter Tryd.func13, Tryd.ntmps13
  go_wp2_with fail
  refine (size_some p D name g f _ w0 _ _ m inferInstance hs hn hg hf).mono ?_
  rintro e w2 ⟨rfl, m2⟩
  go_wp2_with fail
  refine (read_ok p D name w2 w0 _ _ m2 inferInstance hs 0 f.bytes.length g f hn hg hf (by omega)).mono ?_
  rintro e w3 ⟨A1, c1, rfl, m3⟩
  rw [List.drop_zero, List.take_length] at m3
  have hle := row_le (m := m3)
  clear m2
  go_wp2_with fail
  have HR := read_spec A1 f.bytes.length c1 f.bytes (w3.alloc (.cells #[ptr p, .string name, .int .i64 0] 67)) w0 _ inferInstance inferInstance hle (by omega)
  rw [Hrd.out] at HR
  refine HR.mono ?_
  rintro e w4 ⟨A2, c2, xs, R, rfl, hr, m4⟩
  have hle2 := row_le (m := m4)
  go_wp2_with fail
  have m5 : Mod (w4.setCell ⟨w3.heap.size, 2, none⟩ (.int .i64 (rd.2 : Int))) w0 _ := inferInstance
  simp only [emp_sep] at m5
  refine (clip_spec A2 rd.1.length c2 hle2 _ w0 _ m5).mono ?_
  rintro e w6 ⟨rfl, m6⟩
  go_wp2_with fail
  go_ret3
  exact ⟨w3.heap.size, A2, _, rfl, RecsIn.reads hr A2 c2, open_shape m6⟩
set_option maxHeartbeats 4000000 in
theorem jopen_new (hn : nameOk name = true) (hg : mget D.now name = none) (hroom : D.now.length < 64) :
    Calls Tryd.prog 13 #[ptr p, .string name] w (NewSays p D name F w0) := by
  go_enter Tryd.func13, Tryd.ntmps13
  go_wp2_with fail
  refine (size_none p D name _ w0 _ _ m inferInstance hs hn hg).mono ?_
  rintro e w2 ⟨rfl, m2⟩
  go_wp2_with fail
  refine (create_ok p D name w2 w0 _ _ m2 inferInstance hs hn hg hroom).mono ?_
  rintro e w3 ⟨g, rfl, hgf, m3⟩
  go_wp2_with fail
  refine (read_ok p (created D name g) name w3 w0 _ _ m3 inferInstance hs 0 0 g ⟨[], 0⟩ hn (mget_fresh hg g) (by simp [created, fget]) (by simp)).mono ?_
  rintro e w4 ⟨A1, c1, rfl, m4⟩
  go_wp2_with fail
  have HR := read_spec A1 0 c1 [] (w4.alloc (.cells #[ptr p, .string name, .int .i64 0] 67)) w0 _ inferInstance inferInstance (by omega) (by omega)
  rw [readAll_nil] at HR
  refine HR.mono ?_
  rintro e w5 ⟨A2, c2, xs, R, rfl, hr, m5⟩
  have hle2 := row_le (m := m5)
  go_wp2_with fail
  have m6 : Mod (w5.setCell ⟨w4.heap.size, 2, none⟩ (.int .i64 0)) w0 _ := inferInstance
  simp only [emp_sep] at m6
  refine (clip_spec A2 0 c2 hle2 _ w0 _ m6).mono ?_
  rintro e w7 ⟨rfl, m7⟩
  go_wp2_with fail
  go_ret3
  exact ⟨g, hgf, w4.heap.size, A2, _, rfl, RecsIn.reads hr A2 c2, open_shape m7⟩
end
end Go.Proofs.YtmpgnnjhgjfgaaaDoor
