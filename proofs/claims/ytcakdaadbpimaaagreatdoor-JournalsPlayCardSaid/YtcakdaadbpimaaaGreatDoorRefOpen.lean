/- The walk of the reference's Open (bucketlineref06): contracts over the small separation logic; the conditions are in each theorem. -/
import Derived.Test.YtcakdaadbpimaaaGreatDoorRefRecs
import Derived.Test.YtcakdaadbpimaaaGreatDoorRefJour
namespace Go.Proofs.YtcakdaadbpimaaaGreatDoor
open Go.RowKit Go.Sl
attribute [local go_sem] cell_of frozen_of zero_names
theorem mget_lead {s : ByteArray} {g : Nat} : ∀ {l : Dir}, mget l s = none → mget (leadL s g l) s = some g
  | [], _ => by simp [leadL, mget]
  | p :: l, h => by
    unfold leadL
    split
    · rename_i hp
      have hne : p.1 ≠ s := fun e => by rw [e] at hp; exact List.lt_irrefl _ hp
      have hl : mget l s = none := by unfold mget at h ⊢; rw [List.find?_cons_of_neg (by simp [hne])] at h; exact h
      have ih := mget_lead (g := g) hl
      unfold mget at ih ⊢
      rw [List.find?_cons_of_neg (by simp [hne])]
      exact ih
    · simp [mget]
def RefOpens (q : Nat) (M : DiskSt) (name : ByteArray) (F : Asn) (rd : List (List UInt8) × Nat) (w0 : World) (e : Ending) (w' : World) : Prop :=
  ∃ j A c R, e = .returned (.tuple #[ptr j, .slice A rd.1.length c, .int .i64 0]) ∧ ReadsRecs R A rd.1.length rd.1 ∧ Mod w' w0 (refA q M * (rjourA j q name rd.2 * (R * F)))
section
variable (q : Nat) (M : DiskSt) (name : ByteArray) (w w0 : World) (F : Asn) (m : Mod w w0 (refA q M * F)) (hs : name.size ≤ 9223372036854775807)
include m hs
set_option maxHeartbeats 4000000 in
theorem r6open_arg (hn : nameOk name = false) :
    Calls Tryz.prog 38 #[ptr q, .string name] w fun e w' => e = .returned (.tuple #[.pointer none, .slice none 0 0, .int .i64 1]) ∧ Mod w' w0 (refA q M * F) := by
  go_enter Tryz.func38, Tryz.ntmps38
  go_wp2_with fail
  refine (rsize_arg q M name _ w0 _ m hs hn).mono ?_
  rintro e w2 ⟨rfl, m2⟩
  go_wp2_with fail
  go_ret3
  exact ⟨rfl, m2⟩
set_option maxHeartbeats 4000000 in
theorem r6open_there (g : Nat) (f : FileSt) (hn : nameOk name = true) (hg : mget M.now name = some g) (hf : fget M.files g = some f) (hb : f.bytes.length ≤ 1048576) :
    Calls Tryz.prog 38 #[ptr q, .string name] w (RefOpens q M name F (readAll f.bytes) w0) := by
  obtain ⟨rd, hrd⟩ : ∃ rd, readAll f.bytes = rd := ⟨_, rfl⟩
  rw [hrd]
  have Hrd := Lib.hid hrd
  clear hrd
  go_enter Tryz.func38, Tryz.ntmps38
  go_wp2_with fail
  refine (rsize_some q M name _ w0 _ m hs g f hn hg hf).mono ?_
  rintro e w2 ⟨rfl, m2⟩
  go_wp2_with fail
  refine (rread_ok q M name w2 w0 _ m2 hs 0 f.bytes.length g f hn hg hf (by omega)).mono ?_
  rintro e w3 ⟨A1, c1, rfl, m3⟩
  rw [List.drop_zero, List.take_length] at m3
  have hle := row_le (m := m3)
  clear m2
  go_wp2_with fail
  have HR := r6records_spec A1 f.bytes.length c1 f.bytes w3 w0 _ m3 inferInstance hle hb
  rw [Hrd.out] at HR
  refine HR.mono ?_
  rintro e w4 ⟨A2, c2, xs, R, rfl, hr, m4⟩
  have hle2 := row_le (m := m4)
  go_wp2_with fail
  go_ret3
  have m5 : Mod (w4.alloc (.cells #[ptr q, .string name, .int .i64 (rd.2 : Int)] 134)) w0 _ := inferInstance
  refine ⟨w4.heap.size, A2, c2, rowA 46 1 (.slice A2 rd.1.length c2) rd.1.length xs * R, rfl, RecsIn.reads hr A2 c2, ?_⟩
  unfold rjourA
  rw [sep_assoc]
  exact Mod.keep m5
set_option maxHeartbeats 4000000 in
theorem r6open_new (hn : nameOk name = true) (hg : mget M.now name = none) (hroom : M.now.length < 64) :
    Calls Tryz.prog 38 #[ptr q, .string name] w fun e w' => ∃ g, fget M.files g = none ∧ RefOpens q ⟨M.size, leadL name g M.now, M.sure, (g, ⟨[], 0⟩) :: M.files⟩ name F ([], 0) w0 e w' := by
  go_enter Tryz.func38, Tryz.ntmps38
  go_wp2_with fail
  refine (rsize_none q M name _ w0 _ m hs hn hg).mono ?_
  rintro e w2 ⟨rfl, m2⟩
  go_wp2_with fail
  refine (rcreate_ok q M name w2 w0 _ m2 hs hn hg hroom).mono ?_
  rintro e w3 ⟨g, rfl, hgf, m3⟩
  go_wp2_with fail
  refine (rread_ok q ⟨M.size, leadL name g M.now, M.sure, (g, ⟨[], 0⟩) :: M.files⟩ name w3 w0 _ m3 hs 0 0 g ⟨[], 0⟩ hn (mget_lead hg) (by simp [fget]) (by simp)).mono ?_
  rintro e w4 ⟨A1, c1, rfl, m4⟩
  go_wp2_with fail
  have HR := r6records_spec A1 0 c1 [] w4 w0 _ m4 inferInstance (by omega) (by omega)
  rw [readAll_nil] at HR
  refine HR.mono ?_
  rintro e w5 ⟨A2, c2, xs, R, rfl, hr, m5⟩
  go_wp2_with fail
  go_ret3
  have m6 : Mod (w5.alloc (.cells #[ptr q, .string name, .int .i64 0] 134)) w0 _ := inferInstance
  refine ⟨g, hgf, w5.heap.size, A2, c2, rowA 46 1 (.slice A2 0 c2) 0 xs * R, rfl, RecsIn.reads hr A2 c2, ?_⟩
  unfold rjourA
  rw [sep_assoc]
  exact Mod.keep m6
end
end Go.Proofs.YtcakdaadbpimaaaGreatDoor
