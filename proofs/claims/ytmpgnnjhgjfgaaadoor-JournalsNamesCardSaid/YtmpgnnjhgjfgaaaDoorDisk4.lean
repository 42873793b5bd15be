/- The walks of slices.Clone of bytes and of the disk's function Read: contracts over the small separation logic; the conditions are in each theorem. -/
import Derived.Test.YtmpgnnjhgjfgaaaDoorDisk3
namespace Go.Proofs.YtmpgnnjhgjfgaaaDoor
open Go.RowKit Go.Sl
attribute [local go_sem] cell_of frozen_of zero_names
theorem eql_nil_bytes (w : World) (a : Option Addr) (n c n' c' : Nat) : (binOp .eql 35 (.slice a n c) (.slice none n' c')).run Tryd.prog w = .ok (.bool a.isNone) w := Lib.run_eql_slice_nil w 35 5 a n c n' c' (by kernel_rfl)
attribute [local go_sem] eql_nil_bytes
theorem row_made {w w0 : World} {S : Asn} {g : Nat} {e : TypeId} (m : Mod w w0 (blk g (.cells #[] e (0, 0)) * S)) : Mod w w0 (rowA e 1 (.slice (some ⟨g, 0, none⟩) 0 0) 0 [] * S) :=
  Mod.conv (S := blk g (.cells #[] e (0, 0)) * S) fun _ h => sep_imp (A := blk g (.cells #[] e (0, 0))) (A' := rowA e 1 (.slice (some ⟨g, 0, none⟩) 0 0) 0 []) (fun _ hy => ⟨rfl, .inr ⟨g, 0, #[], rfl, Nat.le_refl _, Nat.zero_le _, rfl, rfl, hy⟩⟩) h
set_option maxHeartbeats 1000000 in
theorem clone_bytes (A : Option Addr) (k c : Nat) (xs : List Value) (w w0 : World) (S : Asn) (m : Mod w w0 S) (r : Reads S A k xs) (h1 : ∀ u ∈ xs, u.oneCell' = true) (hk : k ≤ 140737488355328) :
    Calls Tryd.prog 38 #[.slice A k c] w fun e w' => ∃ A' c', e = .returned (.slice A' k c') ∧ Mod w' w0 (rowA 5 1 (.slice A' k c') k xs * S) := by
  have hlen := reads_len m r
  cases A with
  | none =>
    have hk0 : k = 0 := by
      rcases Nat.eq_zero_or_pos k with h | h
      · exact h
      · obtain ⟨ad, ha, _⟩ := reads_cell m r h; cases ha
    subst hk0
    have hxs : xs = [] := List.eq_nil_of_length_eq_zero hlen
    subst hxs
    go_enter Tryd.func38, Tryd.ntmps38
    go_wp2
    go_ret
    refine ⟨none, 0, rfl, Mod.conv (S := emp * S) (m := by rw [emp_sep]; exact m) fun _ h => sep_imp (A := emp) (fun y hy => ?_) h⟩
    have hy : y = Hp.none := hy
    subst hy; exact rowA_nil _ _
  | some ad =>
    go_enter Tryd.func38, Tryd.ntmps38
    go_wp2_with (at_builtin; (refine wpList_append (v := .slice (some ⟨w.heap.size, 0, none⟩) 0 0) (A := some ad) (k := k) (c := c) rfl rfl (row_made inferInstance) rfl rfl h1 (by unfold maxLen; omega) (by omega) ?_); intro A' c' w3 _m3)
    go_ret
    simp only [Nat.zero_add, List.nil_append, emp_sep] at _m3 ⊢
    exact ⟨A', c', rfl, _m3⟩
theorem row_cap {w w0 : World} {S F : Asn} {e : TypeId} {A : Option Addr} {n n' c : Nat} {xs : List Value} (m : Mod w w0 S) [t : Take S (rowQ e 1 (.slice A n c)) (n', xs) F] : n' ≤ c := by
  have m1 : Mod w w0 (rowA e 1 (.slice A n c) n' xs * F) := by have h := t.eq; rw [h] at m; exact m
  rcases (owns_of_row m1).2 with ⟨h1, h2⟩ | ⟨g, cap, cur, h1, _, _, h2, _⟩
  · omega
  · injection h1 with _ _ h; omega
theorem disk_shut_eq {w w0 : World} {F : Asn} {p rn rs : Nat} {S1 S2 S3 S4 S5 : Asn} {sz : Int} {Ln Ls : Pairs} {T : FileTab} (m : Mod w w0 S1) [t1 : Take S1 (blk p) (.cells #[.int .i64 sz, .map (some rn), .map (some rs)] 84 (0, 0)) S2] [t2 : Take S2 (smap rn) Ln S3] [t3 : Take S3 (smap rs) Ls S4] [t4 : Take S4 filesA T S5]
    (D : DiskSt) (hok : DiskOk D) (h1 : sz = (D.size : Int)) (h2 : Ln = ptrs D.now) (h3 : Ls = ptrs D.sure) (h4 : T = D.files) (h5 : S5 = F) : Mod w w0 (diskA p D * F) := by
  subst h5; exact disk_shut m D hok h1 h2 h3 h4
theorem u8s_part (l : List UInt8) (i k : Nat) : ((u8s l).drop i).take k = u8s ((l.drop i).take k) := by simp [u8s, List.map_drop, List.map_take]
theorem none_take {S : Asn} (B : Option Addr) (i n : Nat) (l : List UInt8) (h : n = 0) : Reads S B n (u8s ((l.drop i).take n)) := by subst h; simp only [List.take_zero]; exact Reads.none_of B
theorem clone_part (B : Option Addr) (i n c len : Nat) (l : List UInt8) (w w0 : World) (S : Asn) (m : Mod w w0 S) [r : Reads S B len (u8s l)] (h : i + n ≤ len) (hk : len ≤ 1048576) :
    Calls Tryd.prog 38 #[.slice (Option.map (fun x => x.add i) B) n c] w fun e w' => ∃ A' c', e = .returned (.slice A' n c') ∧ Mod w' w0 (rowA 5 1 (.slice A' n c') n (u8s ((l.drop i).take n)) * S) := by
  have r2 := Reads.part r i n h
  rw [u8s_part] at r2
  exact clone_bytes _ n c _ w w0 S m r2 (one_u8s _) (by omega)
section
variable (p : Nat) (D : DiskSt) (name : ByteArray) (w w0 : World) (S F : Asn) (m : Mod w w0 S) (t : Take S (diskA p) D F) (hs : name.size ≤ 9223372036854775807)
include m t hs
set_option maxHeartbeats 1000000 in
theorem read_arg (i n : Int) (hn : ((decide (0 ≤ i) && decide (0 ≤ n)) && nameOk name) = false) :
    Calls Tryd.prog 17 #[.pointer (some ⟨p, 0, none⟩), .string name, .int .i64 i, .int .i64 n] w fun e w' => e = .returned (.tuple #[.slice none 0 0, .int .i64 1]) ∧ Mod w' w0 S := by
  obtain ⟨rn, rs, hok, m1⟩ := disk_open m t
  clear m
  have Hn := Lib.hid hn
  clear hn
  have hpos : (0 : Int) < D.size := by have := hok.pos; omega
  go_enter Tryd.func17, Tryd.ntmps17
  go_wp2_with (go_at_call 37; refine (find_arg p rn rs D.size _ name (ptrs D.now) _ w0 _ hpos hs (by have h := Hn.out; revert h; cases nameOk name <;> simp <;> omega)).mono ?_; rintro e w' ⟨rfl, _inst⟩)
  all_goals go_ret2
  all_goals exact ⟨rfl, fset_back t _inst hok rfl⟩
set_option maxHeartbeats 1000000 in
theorem read_none (i n : Nat) (hn : nameOk name = true) (hg : mget D.now name = none) :
    Calls Tryd.prog 17 #[.pointer (some ⟨p, 0, none⟩), .string name, .int .i64 (i : Int), .int .i64 (n : Int)] w fun e w' => e = .returned (.tuple #[.slice none 0 0, .int .i64 7]) ∧ Mod w' w0 S := by
  obtain ⟨rn, rs, hok, m1⟩ := disk_open m t
  clear m
  have Hn := Lib.hid hn
  have Hl := Lib.hid (mget_ptrs_none hg)
  clear hn hg
  have hpos : (0 : Int) < D.size := by have := hok.pos; omega
  go_enter Tryd.func17, Tryd.ntmps17
  go_wp2_with (go_at_call 37; refine (find_none p rn rs D.size _ name (ptrs D.now) _ w0 _ hpos hs (by simp [Hn.out]) Hl.out).mono ?_; rintro e w' ⟨rfl, _inst⟩)
  all_goals go_ret2
  all_goals exact ⟨rfl, fset_back t _inst hok rfl⟩
set_option maxHeartbeats 1000000 in
theorem read_short (i n : Nat) (g : Nat) (f : FileSt) (hn : nameOk name = true) (hg : mget D.now name = some g) (hf : fget D.files g = some f) (h : f.bytes.length < i + n) (hi : i ≤ 9223372036854775807) :
    Calls Tryd.prog 17 #[.pointer (some ⟨p, 0, none⟩), .string name, .int .i64 (i : Int), .int .i64 (n : Int)] w fun e w' => e = .returned (.tuple #[.slice none 0 0, .int .i64 5]) ∧ Mod w' w0 S := by
  obtain ⟨rn, rs, hok, m1⟩ := disk_open m t
  obtain ⟨B, c, m2⟩ := file_open m1 inferInstance hf
  have hfl : f.bytes.length ≤ 1048576 := hok.len _ (mem_of_fget _ _ _ hf)
  clear m m1
  have Hn := Lib.hid hn
  have Hl := Lib.hid (mget_ptrs hg)
  have Hf := Lib.hid hf
  clear hn hg hf
  have hpos : (0 : Int) < D.size := by have := hok.pos; omega
  go_enter Tryd.func17, Tryd.ntmps17
  go_wp2_with (go_at_call 37; refine (find_some p rn rs D.size _ name (ptrs D.now) _ w0 _ (ptr g) hpos hs (by simp [Hn.out]) Hl.out).mono ?_; rintro e w' ⟨rfl, _inst⟩)
  all_goals go_ret2
  all_goals
    have m3 := file_shut _inst Hf.out rfl f rfl rfl rfl
    exact ⟨rfl, back t (disk_shut m3 D hok rfl rfl rfl (fset_same _ _ _ Hf.out))⟩
set_option maxHeartbeats 1000000 in
theorem read_ok (i n : Nat) (g : Nat) (f : FileSt) (hn : nameOk name = true) (hg : mget D.now name = some g) (hf : fget D.files g = some f) (h : i + n ≤ f.bytes.length) :
    Calls Tryd.prog 17 #[.pointer (some ⟨p, 0, none⟩), .string name, .int .i64 (i : Int), .int .i64 (n : Int)] w fun e w' => ∃ A' c', e = .returned (.tuple #[.slice A' n c', .int .i64 0]) ∧ Mod w' w0 (rowA 5 1 (.slice A' n c') n (u8s ((f.bytes.drop i).take n)) * S) := by
  obtain ⟨rn, rs, hok, m1⟩ := disk_open m t
  obtain ⟨B, c, m2⟩ := file_open m1 inferInstance hf
  have hcap : f.bytes.length ≤ c := row_cap (e := 5) (A := B) (n := f.bytes.length) m2
  have hfl : f.bytes.length ≤ 1048576 := hok.len _ (mem_of_fget _ _ _ hf)
  clear m m1
  have Hn := Lib.hid hn
  have Hl := Lib.hid (mget_ptrs hg)
  have Hf := Lib.hid hf
  clear hn hg hf
  have hpos : (0 : Int) < D.size := by have := hok.pos; omega
  by_cases hic : i = c
  · subst hic
    go_enter Tryd.func17, Tryd.ntmps17
    go_wp2_with first
      | (go_at_call 37; refine (find_some p rn rs D.size _ name (ptrs D.now) _ w0 _ (ptr g) hpos hs (by simp [Hn.out]) Hl.out).mono ?_; rintro e w' ⟨rfl, _inst⟩)
      | (go_at_call 38; refine (clone_bytes _ n _ (u8s ((f.bytes.drop i).take n)) w' w0 _ _inst (none_take _ i n _ (by omega)) (one_u8s _) (by omega)).mono ?_; rintro e w2 ⟨A', c', rfl, _m3⟩)
    go_ret2
    refine ⟨A', c', rfl, ?_⟩
    have m3 := file_shut _m3 Hf.out rfl f rfl rfl rfl
    rw [fset_same _ _ _ Hf.out] at m3
    rw [t.eq, sep_left_comm]
    exact disk_shut_eq m3 D hok rfl rfl rfl rfl (by simp only [emp_sep])
  · go_enter Tryd.func17, Tryd.ntmps17
    go_wp2_with first
      | (go_at_call 37; refine (find_some p rn rs D.size _ name (ptrs D.now) _ w0 _ (ptr g) hpos hs (by simp [Hn.out]) Hl.out).mono ?_; rintro e w' ⟨rfl, _inst⟩)
      | (go_at_call 38; refine (clone_part B i n _ f.bytes.length f.bytes w' w0 _ _inst h hfl).mono ?_; rintro e w2 ⟨A', c', rfl, _m3⟩)
    go_ret2
    refine ⟨A', c', rfl, ?_⟩
    have m3 := file_shut _m3 Hf.out rfl f rfl rfl rfl
    rw [fset_same _ _ _ Hf.out] at m3
    rw [t.eq, sep_left_comm]
    exact disk_shut_eq m3 D hok rfl rfl rfl rfl (by simp only [emp_sep])
end
end Go.Proofs.YtmpgnnjhgjfgaaaDoor
