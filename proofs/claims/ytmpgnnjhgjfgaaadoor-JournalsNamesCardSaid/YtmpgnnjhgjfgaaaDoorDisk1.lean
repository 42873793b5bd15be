/- The walks of the disk's functions Size, Sync, Left: contracts over the small separation logic; the conditions are in each theorem. -/
import Derived.Test.YtmpgnnjhgjfgaaaDoorDiskPlain
import Derived.Test.YtmpgnnjhgjfgaaaDoorRange
import Derived.Deep.LoopGhost
namespace Go.Proofs.YtmpgnnjhgjfgaaaDoor
open Go.RowKit Go.Sl
attribute [local go_sem] cell_of frozen_of zero_names
theorem ret_int {k : IntKind} {a b : Int} (h : a = b) : Ending.returned (.int k a) = .returned (.int k b) := by rw [h]
theorem fset_same : ∀ (T : FileTab) (g : Nat) (f : FileSt), fget T g = some f → fset T g f = T
  | [], _, _, h => by cases h
  | p :: l, g, f, h => by
    unfold fget at h
    unfold fset
    by_cases hp : p.1 = g
    · rw [if_pos hp] at h ⊢; injection h with h; rw [← h, ← hp]
    · rw [if_neg hp] at h ⊢; rw [fset_same l g f h]
theorem back {w w0 : World} {S F : Asn} {p : Nat} {D : DiskSt} (t : Take S (diskA p) D F) (m : Mod w w0 (diskA p D * F)) : Mod w w0 S := by rw [t.eq]; exact m
theorem mget_ptrs {L : Dir} {s : ByteArray} {g : Nat} (h : mget L s = some g) : mget (ptrs L) s = some (ptr g) := by rw [ptrs, mget_onVals, h]; rfl
theorem mget_ptrs_none {L : Dir} {s : ByteArray} (h : mget L s = none) : mget (ptrs L) s = none := by rw [ptrs, mget_onVals, h]; rfl
/-- The contracts' common premises, and the parts. -/
theorem fset_back {w w0 : World} {S F : Asn} {p rn rs : Nat} {D : DiskSt} {S1 S2 S3 S4 S5 : Asn} {T : FileTab} (t : Take S (diskA p) D F) (m : Mod w w0 S1) [t1 : Take S1 (blk p) (.cells #[.int .i64 (D.size : Int), .map (some rn), .map (some rs)] 84 (0, 0)) S2] [t2 : Take S2 (smap rn) (ptrs D.now) S3] [t3 : Take S3 (smap rs) (ptrs D.sure) S4] [t4 : Take S4 filesA T S5] [s : Sub S5 F]
    (hok : DiskOk D) (h4 : T = D.files) : Mod w w0 S := back t (disk_shut m D hok rfl rfl rfl h4)
set_option maxHeartbeats 1000000 in
theorem size_some (p : Nat) (D : DiskSt) (name : ByteArray) (g : Nat) (f : FileSt) (w w0 : World) (S F : Asn) (m : Mod w w0 S) (t : Take S (diskA p) D F) (hs : name.size ≤ 9223372036854775807)
    (hn : nameOk name = true) (hg : mget D.now name = some g) (hf : fget D.files g = some f) :
    Calls Tryd.prog 16 #[.pointer (some ⟨p, 0, none⟩), .string name] w fun e w' => e = .returned (.tuple #[.int .i64 (f.bytes.length : Int), .int .i64 0]) ∧ Mod w' w0 S := by
  obtain ⟨rn, rs, hok, m1⟩ := disk_open m t
  obtain ⟨B, c, m2⟩ := file_open m1 inferInstance hf
  clear m m1
  have Hl := Lib.hid (mget_ptrs hg)
  have Hn := Lib.hid hn
  have Hf := Lib.hid hf
  have hpos : (0 : Int) < D.size := by have := hok.pos; omega
  clear hg hn hf
  go_enter Tryd.func16, Tryd.ntmps16
  go_wp2_with (go_at_call 37; refine (find_some p rn rs D.size true name (ptrs D.now) _ w0 _ (ptr g) hpos hs Hn.out Hl.out).mono ?_; rintro e w' ⟨rfl, _inst⟩)
  go_ret2
  have m3 := file_shut _inst Hf.out rfl f rfl rfl rfl
  exact ⟨rfl, back t (disk_shut m3 D hok rfl rfl rfl (fset_same _ _ _ Hf.out))⟩
set_option maxHeartbeats 1000000 in
theorem size_none (p : Nat) (D : DiskSt) (name : ByteArray) (w w0 : World) (S F : Asn) (m : Mod w w0 S) (t : Take S (diskA p) D F) (hs : name.size ≤ 9223372036854775807)
    (hn : nameOk name = true) (hg : mget D.now name = none) :
    Calls Tryd.prog 16 #[.pointer (some ⟨p, 0, none⟩), .string name] w fun e w' => e = .returned (.tuple #[.int .i64 0, .int .i64 7]) ∧ Mod w' w0 S := by
  obtain ⟨rn, rs, hok, m1⟩ := disk_open m t
  clear m
  have Hl := Lib.hid (mget_ptrs_none hg)
  have Hn := Lib.hid hn
  have hpos : (0 : Int) < D.size := by have := hok.pos; omega
  clear hg hn
  go_enter Tryd.func16, Tryd.ntmps16
  go_wp2_with (go_at_call 37; refine (find_none p rn rs D.size true name (ptrs D.now) _ w0 _ hpos hs Hn.out Hl.out).mono ?_; rintro e w' ⟨rfl, _inst⟩)
  go_ret2
  exact ⟨rfl, fset_back t _inst hok rfl⟩
set_option maxHeartbeats 1000000 in
theorem size_arg (p : Nat) (D : DiskSt) (name : ByteArray) (w w0 : World) (S F : Asn) (m : Mod w w0 S) (t : Take S (diskA p) D F) (hs : name.size ≤ 9223372036854775807) (hn : nameOk name = false) :
    Calls Tryd.prog 16 #[.pointer (some ⟨p, 0, none⟩), .string name] w fun e w' => e = .returned (.tuple #[.int .i64 0, .int .i64 1]) ∧ Mod w' w0 S := by
  obtain ⟨rn, rs, hok, m1⟩ := disk_open m t
  clear m
  have Hn := Lib.hid hn
  have hpos : (0 : Int) < D.size := by have := hok.pos; omega
  clear hn
  go_enter Tryd.func16, Tryd.ntmps16
  go_wp2_with (go_at_call 37; refine (find_arg p rn rs D.size true name (ptrs D.now) _ w0 _ hpos hs Hn.out).mono ?_; rintro e w' ⟨rfl, _inst⟩)
  go_ret2
  exact ⟨rfl, fset_back t _inst hok rfl⟩
/-- How many bytes the names' files have. -/
def total (T : FileTab) : Dir → Nat
  | [] => 0
  | q :: L => ((fget T q.2).map (·.bytes.length)).getD 0 + total T L
def leftOf (D : DiskSt) : Nat := D.size - total D.files D.now
theorem total_erase (T : FileTab) : ∀ (L : Dir) (i : Nat) (h : i < L.length), total T L = ((fget T L[i].2).map (·.bytes.length)).getD 0 + total T (L.eraseIdx i)
  | [], i, h => by simp at h
  | q :: L, 0, _ => rfl
  | q :: L, i + 1, h => by
    have h' : i < L.length := by simpa using h
    simp only [total, List.getElem_cons_succ, List.eraseIdx_cons_succ]
    rw [total_erase T L i h']; omega
theorem total_le {D : DiskSt} (hok : DiskOk D) : ∀ (L : Dir), total D.files L ≤ L.length * 1048576
  | [] => by simp [total]
  | q :: L => by
    have ih := total_le hok L
    simp only [total, List.length_cons]
    have : ((fget D.files q.2).map (·.bytes.length)).getD 0 ≤ 1048576 := by
      cases h : fget D.files q.2 with
      | none => simp
      | some f => have := hok.len _ (mem_of_fget _ _ _ h); simpa using this
    omega
set_option maxHeartbeats 2000000 in
theorem left_spec (p : Nat) (D : DiskSt) (w w0 : World) (S F : Asn) (m : Mod w w0 S) (t : Take S (diskA p) D F) :
    Calls Tryd.prog 39 #[.pointer (some ⟨p, 0, none⟩)] w fun e w' => e = .returned (.int .i64 (leftOf D : Int)) ∧ Mod w' w0 S := by
  obtain ⟨rn, rs, hok, m1⟩ := disk_open m t
  clear m
  have hpos : (0 : Int) < D.size := by have := hok.pos; omega
  go_enter Tryd.func39, Tryd.ntmps39
  go_wp2_with (go_at_call 44; refine (there_live p D.size _ _ _ w0 _ hpos).mono ?_; rintro e w' ⟨rfl, rfl⟩)
  go_loopg [3] D.now.length (fun gk n wr => ∃ (left : Dir) (cur : Option (ByteArray × Value)), Hid (gk = left.length) ∧ n = .int .i64 ((D.size : Int) - total D.files D.now + total D.files left) ∧ Hid (∀ q ∈ left, (fget D.files q.2).isSome = true) ∧ left.length ≤ 64 ∧
    Mod wr w0 (iterA w.heap.size rn (ptrs D.now) (ptrs left) cur * (blk p (.cells #[.int .i64 (D.size : Int), .map (some rn), .map (some rs)] 84 (0, 0)) * (smap rs (ptrs D.sure) * (filesA D.files * F)))))
  case atStart => exact ⟨D.now, none, rfl, by congr 1; omega, hok.now, hok.many, Mod.to (S := iterA w.heap.size rn (ptrs D.now) (ptrs D.now) none * (blk p (.cells #[.int .i64 (D.size : Int), .map (some rn), .map (some rs)] 84 (0, 0)) * (emp * (smap rs (ptrs D.sure) * (filesA D.files * F))))) (by rw [emp_sep])⟩
  case round =>
    obtain ⟨left, cur, Hk, rfl, Hin, h64, m2⟩ := hrel
    have ht1 := total_le hok D.now
    have ht2 := total_le hok left
    have hmany := hok.many
    have hmost := hok.most
    go_wp2_with (refine wpList_next_smap rfl (.tmp 17) rfl rfl m2 ?_ ?_)
    · intro hl w' m3
      have hl0 : left = [] := by simpa [ptrs, onVals] using hl
      subst hl0
      clear m2 Hk Hin
      have m4 := iter_end m3
      clear m3
      by_cases hv : (0 : Int) ≤ D.size - total D.files D.now + total D.files []
      · go_wp2
        go_ret
        refine ⟨ret_int ?_, fset_back t m4 hok rfl⟩
        unfold leftOf
        simp only [total] at hv ⊢
        first | omega | (split <;> omega)
      · go_wp2
        go_ret
        refine ⟨ret_int ?_, fset_back t m4 hok rfl⟩
        unfold leftOf
        simp only [total] at hv ⊢
        first | omega | (split <;> omega)
    · intro i hi w' m3
      have hi' : i < left.length := by simpa [ptrs, onVals] using hi
      have e1 : (ptrs left)[i] = (left[i].1, ptr left[i].2) := by simp [ptrs, onVals]
      have e2 : (ptrs left).eraseIdx i = ptrs (left.eraseIdx i) := by simp [ptrs, onVals, map_eraseIdx']
      rw [e1, e2] at m3
      rw [e1]
      obtain ⟨f, hf⟩ := Option.isSome_iff_exists.1 (Hin.out left[i] (List.getElem_mem hi'))
      obtain ⟨B, c, m4⟩ := file_open m3 inferInstance hf
      have htot : total D.files left = f.bytes.length + total D.files (left.eraseIdx i) := by
        have := total_erase D.files left i hi'
        rw [hf] at this; simpa using this
      have hflen := hok.len _ (mem_of_fget _ _ _ hf)
      have hflen' : f.bytes.length ≤ 1048576 := hflen
      clear m2 m3 hflen
      have Hf := Lib.hid hf
      have Ht := Lib.hid htot
      have hle : f.bytes.length ≤ total D.files left := by omega
      clear hf htot e1 e2 hi
      generalize left[i].2 = g at *
      generalize left[i].1 = nm at *
      go_wp2
      go_roundg (left.eraseIdx i).length
      case measure => rw [Hk.out, List.length_eraseIdx_of_lt hi']; omega
      case rel =>
        refine ⟨left.eraseIdx i, some (nm, ptr g), rfl, ?_, ?_, ?_, ?_⟩
        · congr 1; have := Ht.out; omega
        · intro q hq; exact Hin.out q ((List.eraseIdx_sublist _ _).subset hq)
        · rw [List.length_eraseIdx_of_lt hi']; omega
        · have m5 := file_shut m4 Hf.out rfl f rfl rfl rfl
          rw [fset_same _ _ _ Hf.out] at m5
          exact Mod.to (m := m5) (by simp only [emp_sep]; ac_rfl)
end Go.Proofs.YtmpgnnjhgjfgaaaDoor
