/- The walks of the disk's functions New, Sync, Create, Remove, Rename: contracts over the small separation logic; the conditions are in each theorem. -/
import Derived.Test.YtmpgnnjhgjfgaaaDoorDisk1
namespace Go.Proofs.YtmpgnnjhgjfgaaaDoor
open Go.RowKit Go.Sl
attribute [local go_sem] cell_of frozen_of zero_names
theorem new_arg (n : Int) (w w0 : World) (S : Asn) (m : Mod w w0 S) (hn : n < 1 ∨ 8388608 < n) :
    Calls Tryd.prog 26 #[.int .i64 n] w fun e w' => e = .returned (.tuple #[.pointer none, .int .i64 1]) ∧ Mod w' w0 S := by
  rcases hn with hn | hn
  · go_enter Tryd.func26, Tryd.ntmps26
    go_wp2
    go_ret2
    exact ⟨rfl, m⟩
  · have h1 : ¬ n < 1 := by omega
    go_enter Tryd.func26, Tryd.ntmps26
    go_wp2
    go_ret2
    exact ⟨rfl, m⟩
def newDisk (n : Nat) : DiskSt := ⟨n, [], [], []⟩
theorem newDisk_ok (n : Nat) (h1 : 1 ≤ n) (h2 : n ≤ 8388608) : DiskOk (newDisk n) :=
  ⟨h1, h2, by simp [newDisk], by simp [newDisk], by simp [newDisk], by simp [newDisk], by simp [newDisk], by simp [newDisk], by simp [newDisk], by simp [newDisk], by simp [newDisk], by simp [newDisk], by simp [newDisk], by simp [newDisk]⟩
theorem new_ok (n : Nat) (w w0 : World) (S : Asn) (m : Mod w w0 S) (h1 : 1 ≤ n) (h2 : n ≤ 8388608) :
    Calls Tryd.prog 26 #[.int .i64 (n : Int)] w fun e w' => ∃ p, e = .returned (.tuple #[ptr p, .int .i64 0]) ∧ Mod w' w0 (diskA p (newDisk n) * S) := by
  go_enter Tryd.func26, Tryd.ntmps26
  go_wp2
  go_ret2
  have m1 : Mod w w0 (emp * S) := by rw [emp_sep]; exact m
  clear m
  have m2 : Mod w w0 (filesA [] * S) := m1
  clear m1
  refine ⟨_, rfl, ?_⟩
  exact disk_shut inferInstance (newDisk n) (newDisk_ok n h1 h2) rfl rfl rfl rfl
section
variable (p : Nat) (D : DiskSt) (name : ByteArray) (w w0 : World) (S F : Asn) (m : Mod w w0 S) (t : Take S (diskA p) D F) (hs : name.size ≤ 9223372036854775807)
include m t hs
set_option maxHeartbeats 1000000 in
theorem sync_some (g : Nat) (f : FileSt) (hn : nameOk name = true) (hg : mget D.now name = some g) (hf : fget D.files g = some f) :
    Calls Tryd.prog 40 #[.pointer (some ⟨p, 0, none⟩), .string name] w fun e w' => e = .returned (.int .i64 0) ∧ Mod w' w0 (diskA p { D with files := fset D.files g ⟨f.bytes, f.bytes.length⟩ } * F) := by
  obtain ⟨rn, rs, hok, m1⟩ := disk_open m t
  obtain ⟨B, c, m2⟩ := file_open m1 inferInstance hf
  clear m m1
  have Hl := Lib.hid (mget_ptrs hg)
  have Hn := Lib.hid hn
  have Hf := Lib.hid hf
  have hpos : (0 : Int) < D.size := by have := hok.pos; omega
  clear hg hn hf
  go_enter Tryd.func40, Tryd.ntmps40
  go_wp2_with (go_at_call 37; refine (find_some p rn rs D.size true name (ptrs D.now) _ w0 _ (ptr g) hpos hs Hn.out Hl.out).mono ?_; rintro e w' ⟨rfl, _inst⟩)
  go_ret
  refine ⟨rfl, ?_⟩
  have m3 := file_shut (w := w'.setCell ⟨g, 0, none⟩ (.int .i64 (f.bytes.length : Int))) inferInstance Hf.out rfl ⟨f.bytes, f.bytes.length⟩ rfl rfl rfl
  exact disk_shut m3 _ (fset_ok hok Hf.out (hok.len _ (mem_of_fget _ _ _ Hf.out)) (Nat.le_refl _)) rfl rfl rfl rfl
set_option maxHeartbeats 1000000 in
theorem sync_none (hn : nameOk name = true) (hg : mget D.now name = none) :
    Calls Tryd.prog 40 #[.pointer (some ⟨p, 0, none⟩), .string name] w fun e w' => e = .returned (.int .i64 7) ∧ Mod w' w0 S := by
  obtain ⟨rn, rs, hok, m1⟩ := disk_open m t
  clear m
  have Hn := Lib.hid hn
  have hpos : (0 : Int) < D.size := by have := hok.pos; omega
  clear hn
  have Hl := Lib.hid (mget_ptrs_none hg)
  clear hg
  go_enter Tryd.func40, Tryd.ntmps40
  go_wp2_with (go_at_call 37; refine (find_none p rn rs D.size true name (ptrs D.now) _ w0 _ hpos hs Hn.out Hl.out).mono ?_; rintro e w' ⟨rfl, _inst⟩)
  go_ret
  exact ⟨rfl, fset_back t _inst hok rfl⟩
set_option maxHeartbeats 1000000 in
theorem sync_arg (hn : nameOk name = false) :
    Calls Tryd.prog 40 #[.pointer (some ⟨p, 0, none⟩), .string name] w fun e w' => e = .returned (.int .i64 1) ∧ Mod w' w0 S := by
  obtain ⟨rn, rs, hok, m1⟩ := disk_open m t
  clear m
  have Hn := Lib.hid hn
  have hpos : (0 : Int) < D.size := by have := hok.pos; omega
  clear hn
  go_enter Tryd.func40, Tryd.ntmps40
  go_wp2_with (go_at_call 37; refine (find_arg p rn rs D.size true name (ptrs D.now) _ w0 _ hpos hs Hn.out).mono ?_; rintro e w' ⟨rfl, _inst⟩)
  go_ret
  exact ⟨rfl, fset_back t _inst hok rfl⟩
set_option maxHeartbeats 1000000 in
theorem remove_none (hn : nameOk name = true) (hg : mget D.now name = none) :
    Calls Tryd.prog 20 #[.pointer (some ⟨p, 0, none⟩), .string name] w fun e w' => e = .returned (.int .i64 7) ∧ Mod w' w0 S := by
  obtain ⟨rn, rs, hok, m1⟩ := disk_open m t
  clear m
  have Hn := Lib.hid hn
  have hpos : (0 : Int) < D.size := by have := hok.pos; omega
  clear hn
  have Hl := Lib.hid (mget_ptrs_none hg)
  clear hg
  go_enter Tryd.func20, Tryd.ntmps20
  go_wp2_with (go_at_call 37; refine (find_none p rn rs D.size true name (ptrs D.now) _ w0 _ hpos hs Hn.out Hl.out).mono ?_; rintro e w' ⟨rfl, _inst⟩)
  go_ret
  exact ⟨rfl, fset_back t _inst hok rfl⟩
set_option maxHeartbeats 1000000 in
theorem remove_arg (hn : nameOk name = false) :
    Calls Tryd.prog 20 #[.pointer (some ⟨p, 0, none⟩), .string name] w fun e w' => e = .returned (.int .i64 1) ∧ Mod w' w0 S := by
  obtain ⟨rn, rs, hok, m1⟩ := disk_open m t
  clear m
  have Hn := Lib.hid hn
  have hpos : (0 : Int) < D.size := by have := hok.pos; omega
  clear hn
  go_enter Tryd.func20, Tryd.ntmps20
  go_wp2_with (go_at_call 37; refine (find_arg p rn rs D.size true name (ptrs D.now) _ w0 _ hpos hs Hn.out).mono ?_; rintro e w' ⟨rfl, _inst⟩)
  go_ret
  exact ⟨rfl, fset_back t _inst hok rfl⟩
set_option maxHeartbeats 1000000 in
theorem create_arg (hn : nameOk name = false) :
    Calls Tryd.prog 18 #[.pointer (some ⟨p, 0, none⟩), .string name] w fun e w' => e = .returned (.int .i64 1) ∧ Mod w' w0 S := by
  obtain ⟨rn, rs, hok, m1⟩ := disk_open m t
  clear m
  have Hn := Lib.hid hn
  have hpos : (0 : Int) < D.size := by have := hok.pos; omega
  clear hn
  go_enter Tryd.func18, Tryd.ntmps18
  go_wp2_with (go_at_call 37; refine (find_arg p rn rs D.size true name (ptrs D.now) _ w0 _ hpos hs Hn.out).mono ?_; rintro e w' ⟨rfl, _inst⟩)
  go_ret
  exact ⟨rfl, fset_back t _inst hok rfl⟩
set_option maxHeartbeats 1000000 in
theorem create_there (g : Nat) (hn : nameOk name = true) (hg : mget D.now name = some g) :
    Calls Tryd.prog 18 #[.pointer (some ⟨p, 0, none⟩), .string name] w fun e w' => e = .returned (.int .i64 8) ∧ Mod w' w0 S := by
  obtain ⟨rn, rs, hok, m1⟩ := disk_open m t
  clear m
  have Hn := Lib.hid hn
  have hpos : (0 : Int) < D.size := by have := hok.pos; omega
  have Hl := Lib.hid (mget_ptrs hg)
  clear hn hg
  go_enter Tryd.func18, Tryd.ntmps18
  go_wp2_with (go_at_call 37; refine (find_some p rn rs D.size true name (ptrs D.now) _ w0 _ (ptr g) hpos hs Hn.out Hl.out).mono ?_; rintro e w' ⟨rfl, _inst⟩)
  go_ret
  exact ⟨rfl, fset_back t _inst hok rfl⟩
set_option maxHeartbeats 1000000 in
theorem create_full (hn : nameOk name = true) (hg : mget D.now name = none) (hfull : D.now.length = 64) :
    Calls Tryd.prog 18 #[.pointer (some ⟨p, 0, none⟩), .string name] w fun e w' => e = .returned (.int .i64 6) ∧ Mod w' w0 S := by
  obtain ⟨rn, rs, hok, m1⟩ := disk_open m t
  clear m
  have Hn := Lib.hid hn
  have hpos : (0 : Int) < D.size := by have := hok.pos; omega
  have Hl := Lib.hid (mget_ptrs_none hg)
  have hlen : (ptrs D.now).length ≤ 64 ∧ 64 ≤ (ptrs D.now).length := by rw [ptrs, length_onVals]; omega
  obtain ⟨hlen1, hlen2⟩ := hlen
  clear hn hg hfull
  go_enter Tryd.func18, Tryd.ntmps18
  go_wp2_with (go_at_call 37; refine (find_none p rn rs D.size true name (ptrs D.now) _ w0 _ hpos hs Hn.out Hl.out).mono ?_; rintro e w' ⟨rfl, _inst⟩)
  go_ret
  exact ⟨rfl, fset_back t _inst hok rfl⟩
set_option maxHeartbeats 1000000 in
theorem create_ok (hn : nameOk name = true) (hg : mget D.now name = none) (hroom : D.now.length < 64) :
    Calls Tryd.prog 18 #[.pointer (some ⟨p, 0, none⟩), .string name] w fun e w' => ∃ g, e = .returned (.int .i64 0) ∧ fget D.files g = none ∧ Mod w' w0 (diskA p (created D name g) * F) := by
  obtain ⟨rn, rs, hok, m1⟩ := disk_open m t
  clear m
  have Hn := Lib.hid hn
  have Hg := Lib.hid hg
  have hpos : (0 : Int) < D.size := by have := hok.pos; omega
  have Hl := Lib.hid (mget_ptrs_none hg)
  have hlen : (ptrs D.now).length < 64 := by rw [ptrs, length_onVals]; exact hroom
  clear hn hg
  go_enter Tryd.func18, Tryd.ntmps18
  go_wp2_with (go_at_call 37; refine (find_none p rn rs D.size true name (ptrs D.now) _ w0 _ hpos hs Hn.out Hl.out).mono ?_; rintro e w' ⟨rfl, _inst⟩)
  go_ret
  have hfr := fresh_file _inst (inferInstance : Take _ filesA D.files _)
  refine ⟨w'.heap.size, rfl, hfr, ?_⟩
  exact disk_shut (file_new (g := w'.heap.size) (T := D.files) inferInstance) (created D name w'.heap.size) (created_ok hok Hn.out Hg.out hroom hfr) rfl (mput_onVals ptr D.now name w'.heap.size) rfl rfl
end
end Go.Proofs.YtmpgnnjhgjfgaaaDoor
