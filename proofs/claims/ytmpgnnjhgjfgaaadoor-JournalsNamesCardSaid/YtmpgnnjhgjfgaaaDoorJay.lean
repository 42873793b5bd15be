/- A journal on the one file of a disk: contracts of the journals' and the disk's functions there, and the walk of law 06's opened: the conditions are in each theorem. -/
import Derived.Test.YtmpgnnjhgjfgaaaDoorJOpen
namespace Go.Proofs.YtmpgnnjhgjfgaaaDoor
open Go.RowKit Go.Sl
attribute [local go_sem] cell_of frozen_of zero_names conv_const conv_bs conv_nil make_bytes
/-- the name "j" -/
def nj : ByteArray := ⟨#[106]⟩
theorem ok_j : nameOk nj = true := by unfold nj; rw [nameOk_eq]; decide
theorem size_j : nj.size ≤ 9223372036854775807 := by decide
/-- The laws' disk, with the one file "j". -/
abbrev jay (g : Nat) (b : List UInt8) (su : Nat) (s : Dir) : DiskSt := one 1000000 nj g ⟨b, su⟩ s
section
variable (p g j : Nat) (b : List UInt8) (su : Nat) (sd : Dir) (w w0 : World) (F S : Asn)
theorem jay_size (m : Mod w w0 S) (t : Take S (diskA p) (jay g b su sd) F) : Calls Tryd.prog 16 #[ptr p, .string nj] w fun e w' => e = .returned (.tuple #[.int .i64 (b.length : Int), .int .i64 0]) ∧ Mod w' w0 S :=
  size_some p (jay g b su sd) nj g ⟨b, su⟩ w w0 S F m t size_j ok_j (mget_one _ _) (fget_one _ _)
theorem jay_add (B : Option Addr) (c : Nat) (rec : List UInt8) (m : Mod w w0 (diskA p (jay g b su sd) * (jourA j p nj b.length * F))) (r : Reads F B rec.length (u8s rec)) (hc : rec.length ≤ c) (hl : rec.length ≤ 65536)
    (h : b.length + (writ b.length true rec).length ≤ 1000000) :
    Calls Tryd.prog 15 #[ptr j, .slice B rec.length c] w fun e w' => e = .returned (.int .i64 0) ∧
      Mod w' w0 (diskA p (jay g (b ++ writ b.length true rec) su sd) * (jourA j p nj (b ++ writ b.length true rec).length * F)) := by
  have h1 : (writ b.length true rec).length ≤ 1000000 - b.length := by omega
  have h2 : b.length + (writ b.length true rec).length ≤ 1048576 := by omega
  have := add_ok j p (jay g b su sd) nj w w0 F B c rec g ⟨b, su⟩ size_j ok_j (mget_one _ _) (fget_one _ _) m r hc hl (by rw [left_one]; exact h1) h2
  refine this.mono ?_
  rintro e w' ⟨h1, h2⟩
  rw [append_one] at h2
  exact ⟨h1, h2⟩
theorem jay_add_state (en : Nat) (B : Option Addr) (n c : Nat) (m : Mod w w0 (diskA p (jay g b su sd) * (jourA j p nj en * F))) (hl : n ≤ 65536) (he : b.length ≠ en) :
    Calls Tryd.prog 15 #[ptr j, .slice B n c] w fun e w' => e = .returned (.int .i64 9) ∧ Mod w' w0 (diskA p (jay g b su sd) * (jourA j p nj en * F)) :=
  add_state j p (jay g b su sd) nj w w0 F B c g ⟨b, su⟩ size_j ok_j (mget_one _ _) (fget_one _ _) en n m hl he
theorem jay_open (m : Mod w w0 (diskA p (jay g b su sd) * F)) (hb : b.length ≤ 1048576) : Calls Tryd.prog 13 #[ptr p, .string nj] w (OpenSays p (jay g b su sd) nj F (readAll b) w0) :=
  jopen_there p (jay g b su sd) nj w w0 F m size_j g ⟨b, su⟩ ok_j (mget_one _ _) (fget_one _ _) hb
theorem jay_sync (en : Nat) (m : Mod w w0 (diskA p (jay g b su sd) * (jourA j p nj en * F))) :
    Calls Tryd.prog 21 #[ptr j] w fun e w' => e = .returned (.int .i64 0) ∧ Mod w' w0 (diskA p (jay g b b.length sd) * (jourA j p nj en * F)) := by
  have := jsync_some j p (jay g b su sd) nj w w0 F en m size_j ok_j g ⟨b, su⟩ (mget_one _ _) (fget_one _ _)
  refine this.mono ?_
  rintro e w' ⟨h1, h2⟩
  rw [append_one] at h2
  exact ⟨h1, h2⟩
end
theorem jay_append (p g : Nat) (b : List UInt8) (su : Nat) (sd : Dir) (w w0 : World) (F S : Asn) (m : Mod w w0 S) (t : Take S (diskA p) (jay g b su sd) F) (B : Option Addr) (c : Nat) (x : List UInt8) (r : Reads F B x.length (u8s x)) (h : b.length + x.length ≤ 1000000) :
    Calls Tryd.prog 19 #[ptr p, .string nj, .slice B x.length c] w fun e w' => e = .returned (.int .i64 0) ∧ Mod w' w0 (diskA p (jay g (b ++ x) su sd) * F) := by
  have := append_ok p (jay g b su sd) nj w w0 S F m t size_j B c x g ⟨b, su⟩ ok_j (mget_one _ _) (fget_one _ _) (by rw [left_one]; show _ ≤ 1000000 - b.length; omega) (by show b.length + _ ≤ _; omega)
  refine this.mono ?_
  rintro e w' ⟨h1, h2⟩
  rw [append_one] at h2
  exact ⟨h1, h2⟩
def OpenedSays (w0 : World) (S : Asn) (e : Ending) (w' : World) : Prop := ∃ p j g, e = .returned (.tuple #[ptr p, ptr j]) ∧ Mod w' w0 (diskA p (jay g [] 0 []) * (jourA j p nj 0 * S))
set_option maxHeartbeats 1000000 in
theorem opened6_spec (w w0 : World) (S : Asn) (m : Mod w w0 S) : Calls Tryd.prog 12 #[] w (OpenedSays w0 S) := by
  go_enter Tryd.func12, Tryd.ntmps12
  go_wp2_with (go_at_call 26; refine (new_ok 1000000 _ w0 _ m (by omega) (by omega)).mono ?_; rintro e w1 ⟨p, rfl, m1⟩)
  refine (jopen_new p (newDisk 1000000) nj w1 w0 _ m1 size_j ok_j rfl (by decide)).mono ?_
  rintro e w2 ⟨g, _, j, A, R, rfl, _, m2⟩
  rw [created_one] at m2
  go_wp2_with fail
  go_ret2
  exact ⟨p, j, g, rfl, Mod.drop (A := R) (m := Mod.to (m := m2) (by ac_rfl))⟩
end Go.Proofs.YtmpgnnjhgjfgaaaDoor
