/- The walks of the disk's functions Remove, Rename, Append: contracts over the small separation logic; the conditions are in each theorem. -/
import Derived.Test.YtmpgnnjhgjfgaaaDoorDisk2
namespace Go.Proofs.YtmpgnnjhgjfgaaaDoor
open Go.RowKit Go.Sl
attribute [local go_sem] cell_of frozen_of zero_names
instance rowT_bytes : RowT Tryd.prog 35 5 1 := ⟨by kernel_rfl, by kernel_rfl⟩
section
variable (p : Nat) (D : DiskSt) (name : ByteArray) (w w0 : World) (S F : Asn) (m : Mod w w0 S) (t : Take S (diskA p) D F) (hs : name.size ≤ 9223372036854775807)
include m t hs
set_option maxHeartbeats 1000000 in
theorem remove_ok (g : Nat) (hn : nameOk name = true) (hg : mget D.now name = some g) :
    Calls Tryd.prog 20 #[.pointer (some ⟨p, 0, none⟩), .string name] w fun e w' => e = .returned (.int .i64 0) ∧ Mod w' w0 (diskA p { D with now := mdel D.now name } * F) := by
  obtain ⟨rn, rs, hok, m1⟩ := disk_open m t
  clear m
  have Hn := Lib.hid hn
  have hpos : (0 : Int) < D.size := by have := hok.pos; omega
  have Hl := Lib.hid (mget_ptrs hg)
  clear hn hg
  go_enter Tryd.func20, Tryd.ntmps20
  go_wp2_with (go_at_call 37; refine (find_some p rn rs D.size true name (ptrs D.now) _ w0 _ (ptr g) hpos hs Hn.out Hl.out).mono ?_; rintro e w' ⟨rfl, _inst⟩)
  go_ret
  refine ⟨rfl, ?_⟩
  exact disk_shut (w := w'.mapDel rn name) inferInstance { D with now := mdel D.now name } (removed_ok hok name) rfl (mdel_onVals ptr D.now name) rfl rfl
section
variable (to : ByteArray) (hs2 : to.size ≤ 9223372036854775807)
include hs2
set_option maxHeartbeats 1000000 in
theorem rename_arg (hn : (nameOk name && nameOk to) = false) :
    Calls Tryd.prog 43 #[.pointer (some ⟨p, 0, none⟩), .string name, .string to] w fun e w' => e = .returned (.int .i64 1) ∧ Mod w' w0 S := by
  obtain ⟨rn, rs, hok, m1⟩ := disk_open m t
  clear m
  have Hn := Lib.hid hn
  have hpos : (0 : Int) < D.size := by have := hok.pos; omega
  clear hn
  go_enter Tryd.func43, Tryd.ntmps43
  go_wp2_with (go_at_call 41; refine (ask_spec p D.size _ _ true w.heap.size #[.string name, .string to] [name, to] _ w0 _ hpos rfl (by simp [hs, hs2]) 2 (by simp) 1 (by simp [Hn.out])).mono ?_; rintro e w' ⟨rfl, _inst⟩)
  go_ret
  exact ⟨rfl, fset_back t _inst hok rfl⟩
set_option maxHeartbeats 1000000 in
theorem rename_none (hn : (nameOk name && nameOk to) = true) (hg : mget D.now name = none) :
    Calls Tryd.prog 43 #[.pointer (some ⟨p, 0, none⟩), .string name, .string to] w fun e w' => e = .returned (.int .i64 7) ∧ Mod w' w0 S := by
  obtain ⟨rn, rs, hok, m1⟩ := disk_open m t
  clear m
  have Hn := Lib.hid hn
  have Hn1 : Hid ((true && nameOk name) = true) := by show _ = _; simp at hn; simp [hn]
  have hpos : (0 : Int) < D.size := by have := hok.pos; omega
  have Hl := Lib.hid (mget_ptrs_none hg)
  clear hn hg
  go_enter Tryd.func43, Tryd.ntmps43
  go_wp2_with first
    | (go_at_call 41; refine (ask_spec p D.size _ _ true w.heap.size #[.string name, .string to] [name, to] _ w0 _ hpos rfl (by simp [hs, hs2]) 2 (by simp) 0 (by simp [Hn.out])).mono ?_; rintro e w' ⟨rfl, _inst⟩)
    | (go_at_call 37; refine (find_none p rn rs D.size true name (ptrs D.now) _ w0 _ hpos hs Hn1.out Hl.out).mono ?_; rintro e w' ⟨rfl, _inst⟩)
  go_ret
  exact ⟨rfl, fset_back t _inst hok rfl⟩
set_option maxHeartbeats 1000000 in
theorem rename_ok (g : Nat) (hn : (nameOk name && nameOk to) = true) (hg : mget D.now name = some g) :
    Calls Tryd.prog 43 #[.pointer (some ⟨p, 0, none⟩), .string name, .string to] w fun e w' => e = .returned (.int .i64 0) ∧ Mod w' w0 (diskA p (renamed D name to g) * F) := by
  obtain ⟨rn, rs, hok, m1⟩ := disk_open m t
  clear m
  have Hn := Lib.hid hn
  have Hn1 : Hid ((true && nameOk name) = true) := by show _ = _; simp at hn; simp [hn]
  have hpos : (0 : Int) < D.size := by have := hok.pos; omega
  have Hl := Lib.hid (mget_ptrs hg)
  have Hg := Lib.hid hg
  clear hn hg
  go_enter Tryd.func43, Tryd.ntmps43
  go_wp2_with first
    | (go_at_call 41; refine (ask_spec p D.size _ _ true w.heap.size #[.string name, .string to] [name, to] _ w0 _ hpos rfl (by simp [hs, hs2]) 2 (by simp) 0 (by simp [Hn.out])).mono ?_; rintro e w' ⟨rfl, _inst⟩)
    | (go_at_call 37; refine (find_some p rn rs D.size true name (ptrs D.now) _ w0 _ (ptr g) hpos hs Hn1.out Hl.out).mono ?_; rintro e w' ⟨rfl, _inst⟩)
  go_ret
  refine ⟨rfl, ?_⟩
  exact disk_shut (w := (w'.mapDel rn name).mapPut rn to (ptr g)) inferInstance (renamed D name to g) (renamed_ok hok (by have := Hn.out; simp at this; exact this.2) Hg.out) rfl (by show mput (mdel (onVals ptr D.now) name) to (ptr g) = _; rw [mdel_onVals, mput_onVals]; rfl) rfl rfl
end
set_option maxHeartbeats 1000000 in
theorem append_arg (A : Option Addr) (k c : Nat) (hn : nameOk name = false) :
    Calls Tryd.prog 19 #[.pointer (some ⟨p, 0, none⟩), .string name, .slice A k c] w fun e w' => e = .returned (.int .i64 1) ∧ Mod w' w0 S := by
  obtain ⟨rn, rs, hok, m1⟩ := disk_open m t
  clear m
  have Hn := Lib.hid hn
  have hpos : (0 : Int) < D.size := by have := hok.pos; omega
  clear hn
  go_enter Tryd.func19, Tryd.ntmps19
  go_wp2_with (go_at_call 37; refine (find_arg p rn rs D.size true name (ptrs D.now) _ w0 _ hpos hs Hn.out).mono ?_; rintro e w' ⟨rfl, _inst⟩)
  go_ret
  exact ⟨rfl, fset_back t _inst hok rfl⟩
set_option maxHeartbeats 1000000 in
theorem append_none (A : Option Addr) (k c : Nat) (hn : nameOk name = true) (hg : mget D.now name = none) :
    Calls Tryd.prog 19 #[.pointer (some ⟨p, 0, none⟩), .string name, .slice A k c] w fun e w' => e = .returned (.int .i64 7) ∧ Mod w' w0 S := by
  obtain ⟨rn, rs, hok, m1⟩ := disk_open m t
  clear m
  have Hn := Lib.hid hn
  have hpos : (0 : Int) < D.size := by have := hok.pos; omega
  have Hl := Lib.hid (mget_ptrs_none hg)
  clear hn hg
  go_enter Tryd.func19, Tryd.ntmps19
  go_wp2_with (go_at_call 37; refine (find_none p rn rs D.size true name (ptrs D.now) _ w0 _ hpos hs Hn.out Hl.out).mono ?_; rintro e w' ⟨rfl, _inst⟩)
  go_ret
  exact ⟨rfl, fset_back t _inst hok rfl⟩
set_option maxHeartbeats 1000000 in
theorem append_full (A : Option Addr) (k c : Nat) (g : Nat) (f : FileSt) (hn : nameOk name = true) (hg : mget D.now name = some g) (hf : fget D.files g = some f) (_hk : k ≤ 9223372036854775807) (h : leftOf D < k ∨ 1048576 < f.bytes.length + k) :
    Calls Tryd.prog 19 #[.pointer (some ⟨p, 0, none⟩), .string name, .slice A k c] w fun e w' => e = .returned (.int .i64 6) ∧ Mod w' w0 S := by
  obtain ⟨rn, rs, hok, m1⟩ := disk_open m t
  clear m
  have Hn := Lib.hid hn
  have hpos : (0 : Int) < D.size := by have := hok.pos; omega
  have hleft : (leftOf D : Int) ≤ 8388608 := by have := hok.most; unfold leftOf; omega
  have hfl : f.bytes.length ≤ 1048576 := hok.len _ (mem_of_fget _ _ _ hf)
  have Hl := Lib.hid (mget_ptrs hg)
  have Hf := Lib.hid hf
  clear hn hg hf
  by_cases hle : leftOf D < k
  · go_enter Tryd.func19, Tryd.ntmps19
    go_wp2_with first
      | (go_at_call 37; refine (find_some p rn rs D.size true name (ptrs D.now) _ w0 _ (ptr g) hpos hs Hn.out Hl.out).mono ?_; rintro e w' ⟨rfl, _inst⟩)
      | (go_at_call 39; refine (left_spec p D _ w0 S F (fset_back t _inst hok rfl) t).mono ?_; rintro e w'' ⟨rfl, _inst2⟩)
    go_ret
    exact ⟨rfl, _inst2⟩
  · have h2 : 1048576 < f.bytes.length + k := h.resolve_left hle
    clear h
    go_enter Tryd.func19, Tryd.ntmps19
    go_wp2_with first
      | (go_at_call 37; refine (find_some p rn rs D.size true name (ptrs D.now) _ w0 _ (ptr g) hpos hs Hn.out Hl.out).mono ?_; rintro e w' ⟨rfl, _inst⟩)
      | (go_at_call 39; refine (left_spec p D _ w0 S F (fset_back t _inst hok rfl) t).mono ?_; rintro e w'' ⟨rfl, _inst2⟩; obtain ⟨rn2, rs2, _, _m1⟩ := disk_open _inst2 t; obtain ⟨B, cB, _m2⟩ := file_open _m1 inferInstance Hf.out; clear _m1)
    go_ret
    exact ⟨rfl, _inst2⟩
set_option maxHeartbeats 1000000 in
theorem append_ok (A : Option Addr) (c : Nat) (b : List UInt8) [r : Reads F A b.length (u8s b)] (g : Nat) (f : FileSt) (hn : nameOk name = true) (hg : mget D.now name = some g) (hf : fget D.files g = some f) (h1 : b.length ≤ leftOf D) (h2 : f.bytes.length + b.length ≤ 1048576) :
    Calls Tryd.prog 19 #[.pointer (some ⟨p, 0, none⟩), .string name, .slice A b.length c] w fun e w' => e = .returned (.int .i64 0) ∧ Mod w' w0 (diskA p { D with files := fset D.files g ⟨f.bytes ++ b, f.sure⟩ } * F) := by
  obtain ⟨rn, rs, hok, m1⟩ := disk_open m t
  clear m
  have Hn := Lib.hid hn
  have hpos : (0 : Int) < D.size := by have := hok.pos; omega
  have Hl := Lib.hid (mget_ptrs hg)
  have Hf := Lib.hid hf
  clear hn hg hf
  go_enter Tryd.func19, Tryd.ntmps19
  have hleft : (leftOf D : Int) ≤ 8388608 := by have := hok.most; unfold leftOf; omega
  go_wp2_with first
      | (at_builtin; (refine wpList_append (v := .slice B f.bytes.length cB) (A := A) (k := b.length) (c := c) rfl rfl _m2 rfl rfl (one_u8s _) (by unfold maxLen; omega) (by omega) ?_); intro A' c' w3 _m3)
      | (go_at_call 37; refine (find_some p rn rs D.size true name (ptrs D.now) _ w0 _ (ptr g) hpos hs Hn.out Hl.out).mono ?_; rintro e w' ⟨rfl, _inst⟩)
      | (go_at_call 39; refine (left_spec p D _ w0 S F (fset_back t _inst hok rfl) t).mono ?_; rintro e w'' ⟨rfl, _inst2⟩; obtain ⟨rn2, rs2, _, _m1⟩ := disk_open _inst2 t; obtain ⟨B, cB, _m2⟩ := file_open _m1 inferInstance Hf.out; clear _m1 _inst2)
  go_ret
  refine ⟨rfl, ?_⟩
  have m4 := file_shut (w := w3.setCell ⟨g, 1, none⟩ (.slice A' (f.bytes.length + b.length) c')) inferInstance Hf.out rfl ⟨f.bytes ++ b, f.sure⟩ rfl (by simp) (u8s_append _ _).symm
  exact disk_shut m4 _ (fset_ok hok Hf.out (by simpa using h2) (by have := hok.upto _ (mem_of_fget _ _ _ Hf.out); simp only [List.length_append]; exact Nat.le_trans this (Nat.le_add_right _ _))) rfl rfl rfl rfl
end
end Go.Proofs.YtmpgnnjhgjfgaaaDoor
