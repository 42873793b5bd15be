/- The walks of the reference's Left, List, Names and Rename: contracts over the small separation logic; the conditions are in each theorem. -/
import Derived.Test.YtcakdaadbpimaaaGreatDoorRef2
namespace Go.Proofs.YtcakdaadbpimaaaGreatDoor
open Go.RowKit Go.Sl
attribute [local go_sem] cell_of cellAt_of frozen_of
theorem ref_nth {p : Nat} {M : DiskSt} {w w0 : World} {F : Asn} (m : Mod w w0 (refA p M * F)) {i : Nat} (hi : i < M.now.length) {f : FileSt} (hf : fget M.files M.now[i].2 = some f) :
    ∃ (b o c : Nat) (v2 : Value) (A' : Option Addr) (c' : Nat), DiskOk M ∧ CellAt (rowA 122 2 (.slice (some ⟨b, o, none⟩) M.now.length c) M.now.length (nmCells M.now)) b (o + i * 2 + 1) (ptr M.now[i].2) ∧ CellAt (rowA 122 2 (.slice (some ⟨b, o, none⟩) M.now.length c) M.now.length (nmCells M.now)) b (o + i * 2) (.string M.now[i].1) ∧
      Mod w w0 (refF p M (some ⟨b, o, none⟩) c v2 M.now[i].2 f (.slice A' f.bytes.length c') F) := by
  obtain ⟨A, c, B, d, hok, _, m1⟩ := ref_open m
  have r0 : Reads (rowA 122 2 (.slice A M.now.length c) M.now.length (nmCells M.now)) A (M.now.length * 2) (nmCells M.now) := reads_rown (by decide)
  obtain ⟨⟨b, o, sp⟩, hA, hsp, _⟩ := reads_cell m1 (reads_lift inferInstance r0) (by omega)
  simp only at hsp
  subst hsp hA
  obtain ⟨e0, e1⟩ := nm_at M.now i hi
  have hc := reads_at_cell r0 (by omega) _ e1
  rw [← Nat.add_assoc] at hc
  have m2 : Mod w w0 (rfilesA M.files * (Go.Sl.blk p (.cells #[.int .i64 (M.size : Int), .slice (some ⟨b, o, none⟩) M.now.length c, .slice B M.sure.length d] 105 (0, 0)) * (rowA 122 2 (.slice (some ⟨b, o, none⟩) M.now.length c) M.now.length (nmCells M.now) * (rowA 122 2 (.slice B M.sure.length d) M.sure.length (nmCells M.sure) * F)))) := Mod.to (m := m1) (by ac_rfl)
  obtain ⟨A', c', m3⟩ := rfile_open m2 hf
  exact ⟨b, o, c, _, A', c', hok, hc, reads_at_cell r0 (by omega) _ e0, Mod.to (m := m3) (by unfold refF; ac_rfl)⟩
/-- The cells of a name that leads to a file. -/
theorem rname_cell {p : Nat} {M : DiskSt} {A : Option Addr} {c : Nat} {v2 : Value} {i : Nat} {w w0 : World} {F : Asn} (hi : i < M.now.length) (m : Mod w w0 (refO p M (.slice A M.now.length c) v2 F)) : ∃ b o, A = some ⟨b, o, none⟩ ∧ CellAt (rowA 122 2 (.slice A M.now.length c) M.now.length (nmCells M.now)) b (o + i * 2 + 1) (ptr M.now[i].2) ∧ CellAt (rowA 122 2 (.slice A M.now.length c) M.now.length (nmCells M.now)) b (o + i * 2) (.string M.now[i].1) := by
  have r0 : Reads (rowA 122 2 (.slice A M.now.length c) M.now.length (nmCells M.now)) A (M.now.length * 2) (nmCells M.now) := reads_rown (by decide)
  obtain ⟨⟨b, o, sp⟩, hA, hsp, _⟩ := reads_cell m (reads_lift inferInstance r0) (by omega)
  simp only at hsp
  subst hsp hA
  obtain ⟨e0, e1⟩ := nm_at M.now i hi
  refine ⟨b, o, rfl, ?_, reads_at_cell r0 (by omega) _ e0⟩
  have := reads_at_cell r0 (by omega) _ e1
  rwa [← Nat.add_assoc] at this
theorem ref_ok {p : Nat} {M : DiskSt} {w w0 : World} {F : Asn} (m : Mod w w0 (refA p M * F)) : DiskOk M := by
  obtain ⟨_, _, _, _, hok, _, _⟩ := ref_open m
  exact hok
theorem total_take_succ (T : FileTab) (L : Dir) (i : Nat) (hi : i < L.length) {f : FileSt} (hf : fget T L[i].2 = some f) : total T (L.take (i + 1)) = total T (L.take i) + f.bytes.length := by
  rw [List.take_succ_eq_append_getElem hi, total_append]
  simp [total, hf]
set_option maxRecDepth 4000 in
set_option maxHeartbeats 2000000 in
theorem rleft_spec (p : Nat) (M : DiskSt) (w w0 : World) (F : Asn) (m : Mod w w0 (refA p M * F)) : Calls Tryz.prog 33 #[ptr p] w fun e w' => e = .returned (.int .i64 (leftOf M : Int)) ∧ Mod w' w0 (refA p M * F) := by
  have hok := ref_ok m
  have Hok := Lib.hid hok
  obtain ⟨A0, c0, B0, d0, _, _, m0⟩ := ref_open m
  have hmost := hok.most
  have hmany := hok.many
  obtain ⟨n, hn⟩ : ∃ n, M.now.length = n := ⟨_, rfl⟩
  have Hn := Lib.hid hn
  rw [hn] at hmany
  clear hok hn
  go_enter Tryz.func33, Tryz.ntmps33
  go_wp2_with fail
  have mS : Mod w w0 (refA p M * F) := m
  clear m0 m
  go_loopg [3, 4] n (fun gk nv iv wr => ∃ (i t : Nat), i ≤ n ∧ gk = n - i ∧ nv = .int .i64 ((M.size : Int) - (t : Int)) ∧ iv = .int .i64 (i : Int) ∧ t ≤ i * 1048576 ∧ Hid (t = total M.files (M.now.take i)) ∧ Mod wr w0 (refA p M * F))
  case atStart => exact ⟨0, 0, Nat.zero_le _, rfl, by simp, rfl, Nat.zero_le _, rfl, mS⟩
  case round =>
    obtain ⟨i, t, hi, hgk, rfl, rfl, htle, Ht, m1⟩ := hrel
    by_cases hlt : i < n
    · have hii : (i : Int) < (n : Int) := by omega
      have hil : i < M.now.length := by rw [Hn.out]; exact hlt
      obtain ⟨f, hf⟩ := Option.isSome_iff_exists.1 (Hok.out.now _ (List.getElem_mem hil))
      obtain ⟨b, o, c, v2, A', c', _, k1, _, m2⟩ := ref_nth m1 hil hf
      have hfl := Hok.out.len _ (mem_of_fget _ _ _ hf)
      have hfl : f.bytes.length ≤ 1048576 := hfl
      have HT : Hid (t + f.bytes.length = total M.files (M.now.take (i + 1))) := by show _ = _; rw [total_take_succ _ _ _ hil hf, Ht.out]
      have Hf := Lib.hid hf
      unfold refF at m2
      rw [Hn.out] at m2 k1
      clear hf m1 Ht
      generalize M.now[i].2 = g at *
      go_wp2_with fail
      go_roundg (n - (i + 1))
      case measure => omega
      case rel => exact ⟨i + 1, t + f.bytes.length, hlt, rfl, by go_num, by go_num, by omega, HT, ref_file_same (v2 := v2) (c := c) (A := some ⟨b, o, none⟩) (by unfold refF; rw [Hn.out]; exact m2) Hf.out Hok.out⟩
    · have hin : i = n := by omega
      have hii : ¬ (i : Int) < (n : Int) := by omega
      obtain ⟨A, c, B, d, _, _, m2⟩ := ref_open m1
      rw [Hn.out] at m2
      have HL : Hid ((leftOf M : Int) = max 0 ((M.size : Int) - (t : Int))) := by
        show _ = _
        unfold leftOf
        rw [Ht.out, List.take_of_length_le (by rw [Hn.out]; omega)]
        omega
      have M1 := Lib.hid m1
      clear hin Ht m1
      go_wp2_with fail
      go_ret
      exact ⟨by rw [HL.out]; rfl, M1.out⟩
instance rowN_texts : RowN Tryz.prog 125 9 1 16 := ⟨by kernel_rfl, by kernel_rfl⟩
def nmTexts (l : Dir) : List Value := l.map fun q => .string q.1
theorem one_texts (l : Dir) : ∀ u ∈ nmTexts l, u.oneCell' = true := by
  intro u hu; obtain ⟨q, _, rfl⟩ := List.mem_map.1 hu; rfl
set_option maxRecDepth 4000 in
set_option maxHeartbeats 2000000 in
theorem rlist_spec (p : Nat) (M : DiskSt) (w w0 : World) (F : Asn) (m : Mod w w0 (refA p M * F)) : Calls Tryz.prog 61 #[ptr p] w fun e w' => ∃ B c, e = .returned (.slice B M.now.length c) ∧ Mod w' w0 (rowA 9 1 (.slice B M.now.length c) M.now.length (nmTexts M.now) * (refA p M * F)) := by
  have hok := ref_ok m
  have Hok := Lib.hid hok
  have hmany := hok.many
  obtain ⟨n, hn⟩ : ∃ n, M.now.length = n := ⟨_, rfl⟩
  have Hn := Lib.hid hn
  rw [hn] at hmany ⊢
  clear hok hn
  go_enter Tryz.func61, Tryz.ntmps61
  go_wp2_with fail
  have mS := row_none_n (e := 9) (size := 1) m
  go_loopg [3, 4] n (fun gk ov iv wr => ∃ (i : Nat) (B : Option Addr) (c : Nat), i ≤ n ∧ gk = n - i ∧ ov = .slice B i c ∧ iv = .int .i64 (i : Int) ∧ Mod wr w0 (rowA 9 1 (.slice B i c) i (nmTexts (M.now.take i)) * (refA p M * F)))
  case atStart => exact ⟨0, none, 0, Nat.zero_le _, rfl, rfl, rfl, mS⟩
  case round =>
    obtain ⟨i, B, cB, hi, hgk, rfl, rfl, m1⟩ := hrel
    by_cases hlt : i < n
    · have hii : (i : Int) < (n : Int) := by omega
      have hil : i < M.now.length := by rw [Hn.out]; exact hlt
      obtain ⟨A, c, B2, d, hok, _, m2⟩ := ref_open (Mod.to (m := m1) (sep_left_comm _ _ _))
      obtain ⟨b, o, rfl, _, k1⟩ := rname_cell hil m2
      have HT : Hid (nmTexts (M.now.take i) ++ [.string M.now[i].1] = nmTexts (M.now.take (i + 1))) := by show _ = _; unfold nmTexts; rw [List.take_succ_eq_append_getElem hil, List.map_append]; rfl
      have Hback := Lib.hid (fun (u : World) (B' : Option Addr) (c' : Nat) (xs : List Value) (mu : Mod u w0 (rowA 9 1 (.slice B' (i + 1) c') (i + 1) xs * (Go.Sl.blk p (.cells #[.int .i64 (M.size : Int), .slice (some ⟨b, o, none⟩) M.now.length c, .slice B2 M.sure.length d] 105 (0, 0)) * (rowA 122 2 (.slice (some ⟨b, o, none⟩) M.now.length c) M.now.length (nmCells M.now) * (rowA 122 2 (.slice B2 M.sure.length d) M.sure.length (nmCells M.sure) * (rfilesA M.files * F)))))) => (show Mod u w0 (rowA 9 1 (.slice B' (i + 1) c') (i + 1) xs * (refA p M * F)) from
        Mod.to (m := ref_shut (v1 := .slice (some ⟨b, o, none⟩) M.now.length c) (v2 := .slice B2 M.sure.length d) (F := rowA 9 1 (.slice B' (i + 1) c') (i + 1) xs * F) M (Mod.to (m := mu) (by ac_rfl)) Hok.out) (sep_left_comm _ _ _)))
      rw [Hn.out] at m2 k1 Hback
      have m3 : Mod wr w0 (rowA 9 1 (.slice B i cB) i (nmTexts (M.now.take i)) * (Go.Sl.blk p (.cells #[.int .i64 (M.size : Int), .slice (some ⟨b, o, none⟩) n c, .slice B2 M.sure.length d] 105 (0, 0)) * (rowA 122 2 (.slice (some ⟨b, o, none⟩) n c) n (nmCells M.now) * (rowA 122 2 (.slice B2 M.sure.length d) M.sure.length (nmCells M.sure) * (rfilesA M.files * F))))) := Mod.to (m := m2) (by ac_rfl)
      clear m1 m2 hok
      generalize M.now[i].1 = t at *
      go_wp2_with (at_builtin; refine wpList_mod (w0 := w0) ?_; intro mw; have mx := Mod.pull (m := mw) (rowA 9 1 (.slice B i cB) i (nmTexts (M.now.take i))); refine wpList_append_n (t := 125) (size := 1) (k := 1) (c := 1) (A := ⟨wr.heap.size, 0, none⟩) (news := [.string t]) rfl rfl mx rfl rfl (reads_blk rfl rfl) (by decide) (by simp [Value.oneCell']) (by unfold maxLen; omega) (by omega) ?_; clear mw mx; intro A2 c2 w2 m4)
      rw [HT.out] at m4
      go_roundg (n - (i + 1))
      case measure => omega
      case rel => exact ⟨i + 1, A2, c2, hlt, rfl, rfl, by go_num, Hback.out _ _ _ _ (Mod.drop (A := Go.Sl.blk wr.heap.size (.cells #[.string t] 9)) (m := Mod.to (m := m4) (sep_left_comm _ _ _)))⟩
    · have hin : i = n := by omega
      have hii : ¬ (i : Int) < (n : Int) := by omega
      subst hin
      obtain ⟨A, c, B2, d, _, _, m2⟩ := ref_open (Mod.to (m := m1) (sep_left_comm _ _ _))
      rw [Hn.out] at m2
      have e : M.now.take i = M.now := List.take_of_length_le (by rw [Hn.out]; exact Nat.le_refl _)
      rw [e] at m1
      have M1 := Lib.hid m1
      clear m1 e
      go_wp2_with fail
      go_ret
      exact ⟨B, cB, rfl, M1.out⟩
set_option maxHeartbeats 2000000 in
theorem rnames_spec (p : Nat) (M : DiskSt) (w w0 : World) (F : Asn) (m : Mod w w0 (refA p M * F)) : Calls Tryz.prog 26 #[ptr p] w fun e w' => e = .returned (.int .i64 0) ∧ Mod w' w0 (refA p { M with sure := M.now } * F) := by
  obtain ⟨A, c, B, d, hok, _, m1⟩ := ref_open m
  have hmany := hok.many
  have Hok := Lib.hid hok
  have r0 : Reads (rowA 122 2 (.slice A M.now.length c) M.now.length (nmCells M.now)) A (M.now.length * 2) (nmCells M.now) := reads_rown (by decide)
  have R0 := Lib.hid r0
  obtain ⟨n, hn⟩ : ∃ n, M.now.length = n := ⟨_, rfl⟩
  rw [hn] at hmany m1 R0
  have Hn := Lib.hid hn
  clear hok r0 hn m
  go_enter Tryz.func26, Tryz.ntmps26
  go_wp2_with (at_builtin; refine wpList_append_k (v := .slice none 0 0) (n := 0) (xs := []) (k := n) (t := 103) rfl rfl (row_none_n m1) rfl rfl (reads_lift inferInstance R0.out) (one_nm _) (by unfold maxLen; omega) (by omega) ?_; intro A1 c1 w1 m3; simp only [Nat.zero_add, List.nil_append] at m3 ⊢)
  go_ret
  have m4 : Mod (w1.setCell ⟨p, 2, none⟩ (.slice A1 n c1)) w0 _ := inferInstance
  simp only [emp_sep] at m4
  refine ⟨rfl, ref_shut (v1 := .slice A n c) (v2 := .slice A1 n c1) { M with sure := M.now } ?_ (names_ok Hok.out)⟩
  show Mod _ w0 (Go.Sl.blk p (.cells #[.int .i64 (M.size : Int), .slice A n c, .slice A1 n c1] 105 (0, 0)) * (rowA 122 2 (.slice A n c) M.now.length (nmCells M.now) * (rowA 122 2 (.slice A1 n c1) M.now.length (nmCells M.now) * (rfilesA M.files * F))))
  rw [Hn.out]
  have m5 : Mod (w1.setCell ⟨p, 2, none⟩ (.slice A1 n c1)) w0 (Go.Sl.blk p (.cells #[.int .i64 (M.size : Int), .slice A n c, .slice A1 n c1] 105 (0, 0)) * (rowA 122 2 (.slice A1 n c1) n (nmCells M.now) * (rowA 122 2 (.slice A n c) n (nmCells M.now) * (rowA 122 2 (.slice B M.sure.length d) M.sure.length (nmCells M.sure) * (rfilesA M.files * F))))) := m4
  exact Mod.drop (A := rowA 122 2 (.slice B M.sure.length d) M.sure.length (nmCells M.sure)) (m := Mod.to (m := m5) (by ac_rfl))
end Go.Proofs.YtcakdaadbpimaaaGreatDoor
