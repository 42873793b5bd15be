/- The walks of the disk's inner functions there, ask and find: contracts over the small separation logic; the conditions are in each theorem. -/
import Derived.Test.YtmpgnnjhgjfgaaaDoorProg
import Derived.Test.YtmpgnnjhgjfgaaaDoorShelf
import Derived.Test.YtmpgnnjhgjfgaaaDoorRow
import Derived.WalkLawsBesides
import Derived.WalkSpells
import Derived.Lib.Hide
namespace Go.Proofs.YtmpgnnjhgjfgaaaDoor
open Go.RowKit Go.Sl
attribute [local go_sem] cell_of frozen_of
/-- The bytes that a name may have. -/
def mayBytes : List UInt8 := [97, 98, 99, 100, 101, 102, 103, 104, 105, 106, 107, 108, 109, 110, 111, 112, 113, 114, 115, 116, 117, 118, 119, 120, 121, 122, 48, 49, 50, 51, 52, 53, 54, 55, 56, 57, 45, 46]
/-- May it be a name? -/
def nameOk (s : ByteArray) : Bool := !s.toList.isEmpty && decide (s.size ≤ 16) && (⟨(Lib.trimS s.data.toList mayBytes).toArray⟩ : ByteArray).toList.isEmpty
theorem trim_spec (s : ByteArray) (w w0 : World) (S : Asn) [Mod w w0 S] (hs : s.size ≤ 9223372036854775807) :
    Calls Tryd.prog 53 #[.string s, .string ⟨#[97, 98, 99, 100, 101, 102, 103, 104, 105, 106, 107, 108, 109, 110, 111, 112, 113, 114, 115, 116, 117, 118, 119, 120, 121, 122, 48, 49, 50, 51, 52, 53, 54, 55, 56, 57, 45, 46]⟩] w
      fun e w' => e = .returned (.string ⟨(Lib.trimS s.data.toList mayBytes).toArray⟩) ∧ Mod w' w0 S := by
  have hcon := Any.strings_Trim_laid Tryd.lays160 (by kernel_rfl) s ⟨mayBytes.toArray⟩ w hs (by decide) (ascii_of_all (by decide))
  exact hcon.mono fun e w' ⟨h1, h2⟩ => ⟨h1, Mod.below h2⟩
theorem there_live (g : Nat) (size : Int) (x y : Value) (w w0 : World) (S : Asn) [Mod w w0 S] [Has S g (.cells #[.int .i64 size, x, y] 84 (0,0))] (h : 0 < size) :
    Calls Tryd.prog 44 #[.pointer (some ⟨g, 0, none⟩)] w fun e w' => e = .returned (.bool true) ∧ w = w' := by
  go_enter Tryd.func44, Tryd.ntmps44
  go_wp2
  go_ret
  exact ⟨rfl, rfl⟩
theorem all_take_succ (p : ByteArray → Bool) (l : List ByteArray) (k : Nat) (h : k < l.length) : (l.take (k + 1)).all p = ((l.take k).all p && p l[k]) := by
  rw [List.take_succ_eq_append_getElem h, List.all_append]; simp only [List.all_cons, List.all_nil, Bool.and_true]
set_option maxHeartbeats 1000000 in
theorem ask_spec (g : Nat) (size : Int) (x y : Value) (ok : Bool) (G : Nat) (cs : Array Value) (names : List ByteArray) (w w0 : World) (S : Asn) [Mod w w0 S] [Has S g (.cells #[.int .i64 size, x, y] 84 (0,0))] (hsize : 0 < size)
    [Has S G (.cells cs 9 (0, 0))] (hcs : cs = (names.map Value.string).toArray) (hn : ∀ s ∈ names, s.size ≤ 9223372036854775807) (cap : Nat) (hlen : names.length ≤ 100) (r : Int) (hr : r = if (ok && names.all nameOk) = true then 0 else 1) :
    Calls Tryd.prog 41 #[.pointer (some ⟨g, 0, none⟩), .bool ok, .slice (some ⟨G, 0, none⟩) names.length cap] w fun e w' => e = .returned (.int .i64 r) ∧ Mod w' w0 S := by
  have Hcs := Lib.hid hcs
  have Hr := Lib.hid hr
  have Hn := Lib.hid hn
  clear hcs hr hn
  go_enter Tryd.func41, Tryd.ntmps41
  go_wp2_with (go_at_call 44; refine (there_live g size x y w w0 S hsize).mono ?_; rintro e w' ⟨rfl, rfl⟩)
  go_loopw [1, 14] (fun b i wr => ∃ (k : Nat) (bb : Bool), k ≤ names.length ∧ i = .int .i64 k ∧ b = .bool bb ∧ Hid (bb = (ok && (names.take k).all nameOk)) ∧ Mod wr w0 S) (fun _ i _ => names.length - (intOf i).toNat)
  case atStart => exact ⟨0, ok, Nat.zero_le _, rfl, rfl, by simp [Hid], inferInstance⟩
  case round =>
    obtain ⟨k, bb, hk, rfl, rfl, Hb, inst⟩ := hrel
    by_cases hlt : k < names.length
    · have hck : cs[k]? = some (.string names[k]) := by rw [Hcs.out]; simp [hlt]
      have Hs : Hid (names[k].size ≤ 9223372036854775807) := Hn.out _ (List.getElem_mem hlt)
      have Hstep : Hid ((ok && (names.take (k + 1)).all nameOk) = (bb && nameOk names[k])) := by
        show _ = _
        rw [all_take_succ _ _ _ hlt, ← Bool.and_assoc, ← Hb.out]
      generalize names[k] = s at *
      have Ht := Lib.hid (trim_spec s wr w0 S Hs.out)
      have Hnm : Hid (nameOk s = (!s.toList.isEmpty && decide (s.size ≤ 16) && (⟨(Lib.trimS s.data.toList mayBytes).toArray⟩ : ByteArray).toList.isEmpty)) := rfl
      generalize (⟨(Lib.trimS s.data.toList mayBytes).toArray⟩ : ByteArray) = t at *
      cases bb
      · go_wp2_with fail
        go_roundw
        case rel => exact ⟨k + 1, false, by omega, by go_num, rfl, by rw [Hid, Hstep.out]; rfl, inst⟩
        case measure => simp [intOf]; omega
      · cases h1 : s.toList.isEmpty
        · by_cases h2 : (s.size : Int) ≤ 16
          · cases h3 : t.toList.isEmpty
            all_goals
              go_wp2_with (go_at_call 53; refine Ht.out.mono ?_; rintro e w' ⟨rfl, inst'⟩)
              go_roundw
              case rel => exact ⟨k + 1, _, by omega, by go_num, rfl, by rw [Hid, Hstep.out, Hnm.out, h1, h3]; simp <;> omega, inst'⟩
              case measure => simp [intOf]; omega
          · go_wp2_with fail
            go_roundw
            case rel => exact ⟨k + 1, false, by omega, by go_num, rfl, by rw [Hid, Hstep.out, Hnm.out]; simp; omega, inst⟩
            case measure => simp [intOf]; omega
        · go_wp2_with fail
          go_roundw
          case rel => exact ⟨k + 1, false, by omega, by go_num, rfl, by rw [Hid, Hstep.out, Hnm.out, h1]; rfl, inst⟩
          case measure => simp [intOf]; omega
    · have hkk : k = names.length := by omega
      have Hb' : Hid (bb = (ok && names.all nameOk)) := by have := Hb.out; rw [hkk, List.take_length] at this; exact this
      clear Hb hkk
      cases bb
      · go_wp2_with fail
        go_ret
        exact ⟨by rw [Hr.out, ← Hb'.out]; rfl, inst⟩
      · go_wp2_with fail
        go_ret
        exact ⟨by rw [Hr.out, ← Hb'.out]; rfl, inst⟩

instance smap_names : SMap Tryd.prog 82 := ⟨by kernel_rfl, by kernel_rfl, fun w => by kernel_rfl⟩
theorem zero_names : Tryd.prog.zeroOf (Tryd.prog.mapElem 82) = .pointer none := by kernel_rfl
attribute [local go_sem] zero_names
theorem find_arg (g rn rs : Nat) (size : Int) (ok : Bool) (name : ByteArray) (L : Pairs) (w w0 : World) (S : Asn) [Mod w w0 S] [Has S g (.cells #[.int .i64 size, .map (some rn), .map (some rs)] 84 (0,0))] [HasMap S rn L] (hsize : 0 < size) (hs : name.size ≤ 9223372036854775807) (h : (ok && nameOk name) = false) :
    Calls Tryd.prog 37 #[.pointer (some ⟨g, 0, none⟩), .bool ok, .string name] w fun e w' => e = .returned (.tuple #[.pointer none, .int .i64 1]) ∧ Mod w' w0 S := by
  have H := Lib.hid h; clear h
  go_enter Tryd.func37, Tryd.ntmps37
  go_wp2_with (go_at_call 41; refine (ask_spec g size _ _ ok w.heap.size #[.string name] [name] _ w0 _ hsize rfl (by simpa using hs) 1 (by simp) 1 (by simp [H.out])).mono ?_; rintro e w' ⟨rfl, _inst⟩)
  go_ret2
  exact ⟨rfl, Mod.sub S⟩
theorem find_none (g rn rs : Nat) (size : Int) (ok : Bool) (name : ByteArray) (L : Pairs) (w w0 : World) (S : Asn) [Mod w w0 S] [Has S g (.cells #[.int .i64 size, .map (some rn), .map (some rs)] 84 (0,0))] [HasMap S rn L] (hsize : 0 < size) (hs : name.size ≤ 9223372036854775807) (h : (ok && nameOk name) = true) (hl : mget L name = none) :
    Calls Tryd.prog 37 #[.pointer (some ⟨g, 0, none⟩), .bool ok, .string name] w fun e w' => e = .returned (.tuple #[.pointer none, .int .i64 7]) ∧ Mod w' w0 S := by
  have H := Lib.hid h; clear h
  go_enter Tryd.func37, Tryd.ntmps37
  go_wp2_with (go_at_call 41; refine (ask_spec g size _ _ ok w.heap.size #[.string name] [name] _ w0 _ hsize rfl (by simpa using hs) 1 (by simp) 0 (by simp [H.out])).mono ?_; rintro e w' ⟨rfl, _inst⟩)
  go_ret2
  exact ⟨rfl, Mod.sub S⟩
theorem find_some (g rn rs : Nat) (size : Int) (ok : Bool) (name : ByteArray) (L : Pairs) (w w0 : World) (S : Asn) [Mod w w0 S] [Has S g (.cells #[.int .i64 size, .map (some rn), .map (some rs)] 84 (0,0))] [HasMap S rn L] (v : Value) (hsize : 0 < size) (hs : name.size ≤ 9223372036854775807) (h : (ok && nameOk name) = true) (hl : mget L name = some v) :
    Calls Tryd.prog 37 #[.pointer (some ⟨g, 0, none⟩), .bool ok, .string name] w fun e w' => e = .returned (.tuple #[v, .int .i64 0]) ∧ Mod w' w0 S := by
  have H := Lib.hid h; clear h
  go_enter Tryd.func37, Tryd.ntmps37
  go_wp2_with (go_at_call 41; refine (ask_spec g size _ _ ok w.heap.size #[.string name] [name] _ w0 _ hsize rfl (by simpa using hs) 1 (by simp) 0 (by simp [H.out])).mono ?_; rintro e w' ⟨rfl, _inst⟩)
  go_ret2
  exact ⟨rfl, Mod.sub S⟩
end Go.Proofs.YtmpgnnjhgjfgaaaDoor
