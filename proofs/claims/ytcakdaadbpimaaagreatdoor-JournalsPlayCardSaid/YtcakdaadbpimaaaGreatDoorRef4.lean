/- The walks of the reference's Rename, Append, Read and Sync: contracts over the small separation logic; the conditions are in each theorem. -/
import Derived.Test.YtcakdaadbpimaaaGreatDoorRef3
import Derived.Test.YtcakdaadbpimaaaGreatDoorPartsG
import Derived.Deep.QuietTactic
import Derived.BigQuiet
namespace Go.Proofs.YtcakdaadbpimaaaGreatDoor
open Go.RowKit Go.Sl
attribute [local go_sem] cell_of cellAt_of frozen_of
theorem mdel_none {l : Dir} {s : ByteArray} (h : mget l s = none) : mdel l s = l := List.filter_eq_self.2 fun q hq => by simp [not_mget h q hq]
instance rowN_bytes : RowN Tryz.prog 46 5 1 1 := ⟨by kernel_rfl, by kernel_rfl⟩
theorem reads_one {S : Asn} {A : Option Addr} {n : Nat} {xs : List Value} (r : Reads S A n xs) : Reads S A (n * 1) xs := by rwa [Nat.mul_one]
section
variable (p : Nat) (M : DiskSt) (s : ByteArray) (w w0 : World) (F : Asn) (m : Mod w w0 (refA p M * F)) (hs : s.size ≤ 9223372036854775807)
include m hs
theorem rrename_arg (to : ByteArray) (ht : to.size ≤ 9223372036854775807) (hn : (nameOk s && nameOk to) = false) : Calls Tryz.prog 16 #[ptr p, .string s, .string to] w fun e w' => e = .returned (.int .i64 1) ∧ Mod w' w0 (refA p M * F) := by
  cases h1 : nameOk s with
  | false =>
    clear hn
    go_enter Tryz.func16, Tryz.ntmps16
    go_wp2_with (go_at_call 51; refine (rName_spec s _ w0 _ m hs).mono ?_; rintro e w2 ⟨rfl, m2⟩)
    go_ret
    exact ⟨rfl, m2⟩
  | true =>
    rw [h1, Bool.true_and] at hn
    go_enter Tryz.func16, Tryz.ntmps16
    go_wp2_with fail
    refine (rName_spec s _ w0 _ m hs).mono ?_
    rintro e w2 ⟨rfl, m2⟩
    go_wp2_with fail
    refine (rName_spec to _ w0 _ m2 ht).mono ?_
    rintro e w3 ⟨rfl, m3⟩
    go_wp2_with fail
    go_ret
    exact ⟨rfl, m3⟩
theorem rrename_none (to : ByteArray) (ht : to.size ≤ 9223372036854775807) (hn : (nameOk s && nameOk to) = true) (hg : mget M.now s = none) : Calls Tryz.prog 16 #[ptr p, .string s, .string to] w fun e w' => e = .returned (.int .i64 7) ∧ Mod w' w0 (refA p M * F) := by
  obtain ⟨A, c, B, d, hok, _, m1⟩ := ref_open m
  have hf := findI_none hg
  have Hok := Lib.hid hok
  obtain ⟨h1, h2⟩ := Bool.and_eq_true_iff.1 hn
  clear hok hn
  go_enter Tryz.func16, Tryz.ntmps16
  go_wp2_with fail
  refine (rName_spec s _ w0 _ m1 hs).mono ?_
  rintro e w2 ⟨rfl, m2⟩
  go_wp2_with fail
  refine (rName_spec to _ w0 _ m2 ht).mono ?_
  rintro e w3 ⟨rfl, m3⟩
  go_wp2_with (go_at_call 52; refine (rfind_ref p M A c _ s _ w0 F Hok.out m3).mono ?_; rintro e w4 ⟨rfl, m4⟩)
  go_ret
  exact ⟨rfl, ref_shut M m4 Hok.out⟩
set_option maxRecDepth 4000 in
set_option maxHeartbeats 2000000 in
theorem rrename_ok (to : ByteArray) (ht : to.size ≤ 9223372036854775807) (g : Nat) (hn : (nameOk s && nameOk to) = true) (hg : mget M.now s = some g) : Calls Tryz.prog 16 #[ptr p, .string s, .string to] w fun e w' => e = .returned (.int .i64 0) ∧ Mod w' w0 (refA p (if s = to then M else { M with now := leadL to g (mdel (mdel M.now s) to) }) * F) := by
  obtain ⟨A, c, B, d, hok, _, m1⟩ := ref_open m
  obtain ⟨i, hi, hf, hq1, hq2⟩ := findI_some hok.keys hg
  have hi0 : ¬ (i : Int) < 0 := by omega
  have hil : (i : Int) < (M.now.length : Int) := by omega
  have Hok := Lib.hid hok
  have Hd := Lib.hid (take_drop_mdel hi hok.keys hq1)
  have Hg := Lib.hid hg
  have Hi := Lib.hid hi
  obtain ⟨h1, h2⟩ := Bool.and_eq_true_iff.1 hn
  have H2 := Lib.hid h2
  clear hok hn hg hq1
  obtain ⟨b, o, rfl, k1, kk⟩ := rname_cell hi m1
  rw [hq2] at k1
  clear kk hq2 hi m
  by_cases hst : s = to
  · subst hst
    have hnn : (s.toList == s.toList) = true := by simp
    rw [if_pos rfl]
    go_enter Tryz.func16, Tryz.ntmps16
    go_wp2_with fail
    refine (rName_spec s _ w0 _ m1 hs).mono ?_
    rintro e w2 ⟨rfl, m2⟩
    go_wp2_with fail
    refine (rName_spec s _ w0 _ m2 ht).mono ?_
    rintro e w3 ⟨rfl, m3⟩
    go_wp2_with (go_at_call 52; refine (rfind_ref p M (some ⟨b, o, none⟩) c _ s _ w0 F Hok.out m3).mono ?_; rintro e w4 ⟨rfl, m4⟩)
    go_ret
    exact ⟨rfl, ref_shut M m4 Hok.out⟩
  · have hnn : (s.toList == to.toList) = false := beq_eq_false_iff_ne.2 fun e => hst (toList_inj e)
    rw [if_neg hst]
    have Hst := Lib.hid hst
    clear hst
    go_enter Tryz.func16, Tryz.ntmps16
    go_wp2_with fail
    refine (rName_spec s _ w0 _ m1 hs).mono ?_
    rintro e w2 ⟨rfl, m2⟩
    go_wp2_with fail
    refine (rName_spec to _ w0 _ m2 ht).mono ?_
    rintro e w3 ⟨rfl, m3⟩
    go_wp2_with fail
    refine (rfind_ref p M (some ⟨b, o, none⟩) c _ s _ w0 F Hok.out m3).mono ?_
    rintro e w4 ⟨rfl, m4⟩
    go_wp2_with fail
    refine (rdrop_spec p M i Hi.out _ w0 F (ref_shut M m4 Hok.out)).mono ?_
    rintro e w5 ⟨rfl, m5⟩
    rw [Hd.out] at m5
    have hok1 : DiskOk { M with now := mdel M.now s } := removed_ok Hok.out s
    have hlen : (mdel M.now s).length < M.now.length := mdel_length_lt Hg.out
    have hfin := renamed_ok (b := to) Hok.out H2.out Hg.out
    have hmp := mput_perm (s := to) (g := g) hok1.keys
    have hrm : (mdel M.now s).length < 64 := by have := Hok.out.many; omega
    clear hlen hf hi0 hil k1
    obtain ⟨A1, c1, B1, d1, _, _, m6⟩ := ref_open m5
    have fin : ∀ (u : World) (X : Dir) (hX : X = mdel (mdel M.now s) to) (A2 : Option Addr) (c2 : Nat) (B2 : Option Addr) (d2 : Nat), Mod u w0 (Go.Sl.blk p (.cells #[.int .i64 (M.size : Int), .slice A2 (X.length + 1) c2, .slice B2 M.sure.length d2] 105 (0, 0)) *
        (rowA 122 2 (.slice A2 (X.length + 1) c2) (X.length + 1) (nmCells (leadL to g X)) * (rowA 122 2 (.slice B2 M.sure.length d2) M.sure.length (nmCells M.sure) * (rfilesA M.files * F)))) → Mod u w0 (refA p { M with now := leadL to g (mdel (mdel M.now s) to) } * F) := by
      rintro u X rfl A2 c2 B2 d2 mu
      have hp := leadL_perm to g (mdel (mdel M.now s) to)
      have hl : (mdel (mdel M.now s) to).length + 1 = (leadL to g (mdel (mdel M.now s) to)).length := by rw [hp.length_eq]; rfl
      rw [hl] at mu
      exact ref_shut { M with now := leadL to g (mdel (mdel M.now s) to) } mu (ok_now hfin (hp.trans hmp.symm))
    have Fin := Lib.hid fin
    have Hok1 := Lib.hid hok1
    clear fin hfin hmp hok1
    cases hg2 : mget (mdel M.now s) to with
    | none =>
      have hf2 := findI_none hg2
      have Hg2 := Lib.hid (mdel_none hg2)
      clear hg2
      go_wp2_with fail
      refine (rfind_ref p { M with now := mdel M.now s } A1 c1 _ to _ w0 F Hok1.out m6).mono ?_
      rintro e w7 ⟨rfl, m7⟩
      go_wp2_with fail
      refine (rlead_spec p { M with now := mdel M.now s } to g hrm _ w0 F (ref_shut { M with now := mdel M.now s } m7 Hok1.out)).mono ?_
      rintro e w8 ⟨rfl, A2, c2, B2, d2, m8⟩
      go_wp2_with fail
      go_ret
      exact ⟨rfl, Fin.out _ _ Hg2.out.symm A2 c2 B2 d2 m8⟩
    | some g2 =>
      obtain ⟨i2, hi2, hf2, hq3, hq4⟩ := findI_some Hok1.out.keys hg2
      have Hd2 := Lib.hid (take_drop_mdel hi2 Hok1.out.keys hq3)
      have hi3 : (0 : Int) ≤ (i2 : Int) := by omega
      have Hi2 := Lib.hid hi2
      have hrm2 : (mdel (mdel M.now s) to).length < 64 := by have := mdel_length_lt hg2; omega
      clear hg2 hq3 hq4 hi2
      go_wp2_with fail
      refine (rfind_ref p { M with now := mdel M.now s } A1 c1 _ to _ w0 F Hok1.out m6).mono ?_
      rintro e w7 ⟨rfl, m7⟩
      go_wp2_with fail
      refine (rdrop_spec p { M with now := mdel M.now s } i2 Hi2.out _ w0 F (ref_shut { M with now := mdel M.now s } m7 Hok1.out)).mono ?_
      rintro e w9 ⟨rfl, m9⟩
      dsimp only at m9
      rw [Hd2.out] at m9
      go_wp2_with fail
      refine (rlead_spec p { M with now := mdel (mdel M.now s) to } to g hrm2 _ w0 F m9).mono ?_
      rintro e w8 ⟨rfl, A2, c2, B2, d2, m8⟩
      go_wp2_with fail
      go_ret
      exact ⟨rfl, Fin.out _ _ rfl A2 c2 B2 d2 m8⟩
theorem rappend_arg (A0 : Option Addr) (k c0 : Nat) (hn : nameOk s = false) : Calls Tryz.prog 18 #[ptr p, .string s, .slice A0 k c0] w fun e w' => e = .returned (.int .i64 1) ∧ Mod w' w0 (refA p M * F) := by
  go_enter Tryz.func18, Tryz.ntmps18
  go_wp2_with (go_at_call 51; refine (rName_spec s _ w0 _ m hs).mono ?_; rintro e w2 ⟨rfl, m2⟩)
  go_ret
  exact ⟨rfl, m2⟩
theorem rappend_none (A0 : Option Addr) (k c0 : Nat) (hn : nameOk s = true) (hg : mget M.now s = none) : Calls Tryz.prog 18 #[ptr p, .string s, .slice A0 k c0] w fun e w' => e = .returned (.int .i64 7) ∧ Mod w' w0 (refA p M * F) := by
  obtain ⟨A, c, B, d, hok, _, m1⟩ := ref_open m
  have hf := findI_none hg
  have Hok := Lib.hid hok
  clear hok
  go_enter Tryz.func18, Tryz.ntmps18
  go_wp2_with first
    | (go_at_call 51; refine (rName_spec s _ w0 _ m1 hs).mono ?_; rintro e w2 ⟨rfl, m2⟩)
    | (go_at_call 52; refine (rfind_ref p M A c _ s _ w0 F Hok.out m2).mono ?_; rintro e w3 ⟨rfl, m3⟩)
  go_ret
  exact ⟨rfl, ref_shut M m3 Hok.out⟩
set_option maxRecDepth 4000 in
set_option maxHeartbeats 2000000 in
theorem rappend_full (A0 : Option Addr) (k c0 : Nat) (g : Nat) (f : FileSt) (hn : nameOk s = true) (hg : mget M.now s = some g) (hfg : fget M.files g = some f) (hk : k ≤ 9223372036854775807) (h : leftOf M < k ∨ 1048576 < f.bytes.length + k) : Calls Tryz.prog 18 #[ptr p, .string s, .slice A0 k c0] w fun e w' => e = .returned (.int .i64 6) ∧ Mod w' w0 (refA p M * F) := by
  obtain ⟨i, b, o, c, v2, A', c', hok, hi, hf, k1, m1⟩ := ref_file m hg hfg
  have hi0 : ¬ (i : Int) < 0 := by omega
  have hil : (i : Int) < (M.now.length : Int) := by omega
  have Hok := Lib.hid hok
  have Hfg := Lib.hid hfg
  have Hg := Lib.hid hg
  have hfl : f.bytes.length ≤ 1048576 := hok.len _ (mem_of_fget _ _ _ hfg)
  have hleft : leftOf M ≤ 8388608 := Nat.le_trans (Nat.sub_le _ _) hok.most
  have hcase : (leftOf M : Int) < (k : Int) ∨ (¬ (leftOf M : Int) < (k : Int) ∧ (1048576 : Int) < (f.bytes.length : Int) + (k : Int) ∧ k ≤ 8388608) := by omega
  clear hok hfg hg m h
  rcases hcase with h1 | ⟨h1, h2, h3⟩
  all_goals
    go_enter Tryz.func18, Tryz.ntmps18
    go_wp2_with first
      | (go_at_call 51; refine (rName_spec s _ w0 _ m1 hs).mono ?_; rintro e w2 ⟨rfl, m2⟩)
      | (go_at_call 52; refine (rfind_file s Hok.out m2).mono ?_; rintro e w3 ⟨rfl, m3⟩)
    refine (rleft_spec p M _ w0 F (ref_file_same m3 Hfg.out Hok.out)).mono ?_
    rintro e w4 ⟨rfl, m4⟩
    obtain ⟨i', b', o', c1, v3, A1, c2, _, _, _, _, m5⟩ := ref_file m4 Hg.out Hfg.out
    clear m4 m3 m2 m1
    go_wp2_with fail
    go_ret
    exact ⟨rfl, ref_file_same m5 Hfg.out Hok.out⟩
set_option maxRecDepth 4000 in
set_option maxHeartbeats 2000000 in
theorem rappend_ok (A0 : Option Addr) (c0 : Nat) (l : List UInt8) (r : Reads F A0 l.length (u8s l)) (g : Nat) (f : FileSt) (hn : nameOk s = true) (hg : mget M.now s = some g) (hfg : fget M.files g = some f) (h1 : l.length ≤ leftOf M) (h2 : f.bytes.length + l.length ≤ 1048576) :
    Calls Tryz.prog 18 #[ptr p, .string s, .slice A0 l.length c0] w fun e w' => e = .returned (.int .i64 0) ∧ Mod w' w0 (refA p { M with files := fset M.files g ⟨f.bytes ++ l, f.sure⟩ } * F) := by
  obtain ⟨i, b, o, c, v2, A', c', hok, hi, hf, k1, m1⟩ := ref_file m hg hfg
  have hi0 : ¬ (i : Int) < 0 := by omega
  have hil : (i : Int) < (M.now.length : Int) := by omega
  have Hok := Lib.hid hok
  have Hfg := Lib.hid hfg
  have Hg := Lib.hid hg
  have hup : f.sure ≤ f.bytes.length := hok.upto _ (mem_of_fget _ _ _ hfg)
  have hok2 : DiskOk { M with files := fset M.files g ⟨f.bytes ++ l, f.sure⟩ } := fset_ok hok hfg (by simp; omega) (by simp; omega)
  have Hok2 := Lib.hid hok2
  obtain ⟨k, hk⟩ : ∃ k, l.length = k := ⟨_, rfl⟩
  have R := Lib.hid r
  rw [hk] at R h1 h2 ⊢
  obtain ⟨fl, hfl⟩ : ∃ fl, f.bytes.length = fl := ⟨_, rfl⟩
  rw [hfl] at h2
  have h1i : ¬ (leftOf M : Int) < (k : Int) := by omega
  have h2i : ¬ (1048576 : Int) < (fl : Int) + (k : Int) := by omega
  have Hfl := Lib.hid hfl
  have Hk := Lib.hid hk
  clear hok hfg hg m hok2 hup r hk
  unfold refF at m1
  rw [hfl] at m1
  clear hfl
  go_enter Tryz.func18, Tryz.ntmps18
  go_wp2_with first
    | (go_at_call 51; refine (rName_spec s _ w0 _ m1 hs).mono ?_; rintro e w2 ⟨rfl, m2⟩)
    | (go_at_call 52; refine (rfind_file (f := f) s Hok.out (by unfold refF; rw [Hfl.out]; exact m2)).mono ?_; rintro e w3 ⟨rfl, m3⟩)
  refine (rleft_spec p M _ w0 F (ref_file_same m3 Hfg.out Hok.out)).mono ?_
  rintro e w4 ⟨rfl, m4⟩
  obtain ⟨i', b', o', c1, v3, A1, c2, _, _, _, _, m5⟩ := ref_file m4 Hg.out Hfg.out
  clear m4 m3 m2 m1
  unfold refF at m5
  rw [Hfl.out] at m5
  have RF := Lib.hid (reads_one (inferInstance : Reads (rowA 5 1 (.slice A1 fl c2) fl (u8s f.bytes)) A1 fl (u8s f.bytes)))
  have RB := Lib.hid (reads_one R.out)
  go_wp2_with first
    | (at_builtin; refine wpList_append_k (v := .slice A2 fl c3) (n := fl) (k := k) (t := 46) rfl rfl m6 rfl rfl (reads_lift inferInstance RB.out) (one_u8s _) (by unfold maxLen; omega) (by omega) ?_; intro A3 c4 w6 m7)
    | (at_builtin; refine wpList_append_k (v := .slice none 0 0) (n := 0) (xs := []) (k := fl) (t := 46) rfl rfl (row_none_n m5) rfl rfl (reads_lift inferInstance RF.out) (one_u8s _) (by unfold maxLen; omega) (by omega) ?_; intro A2 c3 w5 m6; simp only [Nat.zero_add, List.nil_append] at m6 ⊢)
  go_ret
  have m8 : Mod (w6.setCell ⟨g, 0, none⟩ (.slice A3 (fl + k) c4)) w0 _ := inferInstance
  simp only [emp_sep] at m8
  have m9 : Mod (w6.setCell ⟨g, 0, none⟩ (.slice A3 (fl + k) c4)) w0 (Go.Sl.blk g (.cells #[.slice A3 (fl + k) c4, .int .i64 (f.sure : Int)] 118 (0, 0)) * (rowA 5 1 (.slice A3 (fl + k) c4) (fl + k) (u8s f.bytes ++ u8s l) * (rowA 5 1 (.slice A1 fl c2) fl (u8s f.bytes) * (Go.Sl.blk p (.cells #[.int .i64 (M.size : Int), .slice (some ⟨b', o', none⟩) M.now.length c1, v3] 105 (0, 0)) *
    (rowA 122 2 (.slice (some ⟨b', o', none⟩) M.now.length c1) M.now.length (nmCells M.now) * (rowA 122 2 v3 M.sure.length (nmCells M.sure) * (rfilesA (fdel M.files g) * F))))))) := m8
  have el : fl + k = (f.bytes ++ l).length := by rw [List.length_append, Hfl.out, Hk.out]
  rw [← u8s_append, el] at m9
  refine ⟨rfl, ?_⟩
  rw [el]
  exact ref_file_back (A := some ⟨b', o', none⟩) (c := c1) (v2 := v3) (v := .slice A3 (f.bytes ++ l).length c4) ⟨f.bytes ++ l, f.sure⟩ (Mod.drop (A := rowA 5 1 (.slice A1 fl c2) fl (u8s f.bytes)) (m := Mod.to (m := m9) (by unfold refF; dsimp only; ac_rfl))) Hfg.out Hok2.out
theorem rread_arg (i n : Int) (hn : ((decide (0 ≤ i) && decide (0 ≤ n)) && nameOk s) = false) : Calls Tryz.prog 20 #[ptr p, .string s, .int .i64 i, .int .i64 n] w fun e w' => e = .returned (.tuple #[.slice none 0 0, .int .i64 1]) ∧ Mod w' w0 (refA p M * F) := by
  have hc : nameOk s = false ∨ (nameOk s = true ∧ i < 0) ∨ (nameOk s = true ∧ ¬ i < 0 ∧ n < 0) := by
    cases h : nameOk s with
    | false => exact .inl rfl
    | true =>
      rw [h, Bool.and_true, Bool.and_eq_false_iff] at hn
      rcases hn with h1 | h1
      · exact .inr (.inl ⟨rfl, by have := of_decide_eq_false h1; omega⟩)
      · have := of_decide_eq_false h1
        by_cases hi : i < 0
        · exact .inr (.inl ⟨rfl, hi⟩)
        · exact .inr (.inr ⟨rfl, hi, by omega⟩)
  clear hn
  rcases hc with h1 | ⟨h1, h2⟩ | ⟨h1, h2, h3⟩
  all_goals
    go_enter Tryz.func20, Tryz.ntmps20
    go_wp2_with (go_at_call 51; refine (rName_spec s _ w0 _ m hs).mono ?_; rintro e w2 ⟨rfl, m2⟩)
    go_ret2
    exact ⟨rfl, m2⟩
theorem rread_none (i n : Nat) (hn : nameOk s = true) (hg : mget M.now s = none) : Calls Tryz.prog 20 #[ptr p, .string s, .int .i64 (i : Int), .int .i64 (n : Int)] w fun e w' => e = .returned (.tuple #[.slice none 0 0, .int .i64 7]) ∧ Mod w' w0 (refA p M * F) := by
  obtain ⟨A, c, B, d, hok, _, m1⟩ := ref_open m
  have hf := findI_none hg
  have Hok := Lib.hid hok
  have hi : ¬ (i : Int) < 0 := by omega
  have hnn : ¬ (n : Int) < 0 := by omega
  clear hok
  go_enter Tryz.func20, Tryz.ntmps20
  go_wp2_with first
    | (go_at_call 51; refine (rName_spec s _ w0 _ m1 hs).mono ?_; rintro e w2 ⟨rfl, m2⟩)
    | (go_at_call 52; refine (rfind_ref p M A c _ s _ w0 F Hok.out m2).mono ?_; rintro e w3 ⟨rfl, m3⟩)
  go_ret2
  exact ⟨rfl, ref_shut M m3 Hok.out⟩
set_option maxRecDepth 4000 in
set_option maxHeartbeats 2000000 in
theorem rread_short (i0 n : Nat) (g : Nat) (f : FileSt) (hn : nameOk s = true) (hg : mget M.now s = some g) (hfg : fget M.files g = some f) (h : f.bytes.length < i0 + n) (hi9 : i0 ≤ 9223372036854775807) : Calls Tryz.prog 20 #[ptr p, .string s, .int .i64 (i0 : Int), .int .i64 (n : Int)] w fun e w' => e = .returned (.tuple #[.slice none 0 0, .int .i64 5]) ∧ Mod w' w0 (refA p M * F) := by
  obtain ⟨i, b, o, c, v2, A', c', hok, hi, hf, k1, m1⟩ := ref_file m hg hfg
  have hi0 : ¬ (i : Int) < 0 := by omega
  have hil : (i : Int) < (M.now.length : Int) := by omega
  have hfl : f.bytes.length ≤ 1048576 := hok.len _ (mem_of_fget _ _ _ hfg)
  have Hok := Lib.hid hok
  have Hfg := Lib.hid hfg
  have hni : ¬ (i0 : Int) < 0 := by omega
  have hnn : ¬ (n : Int) < 0 := by omega
  have hcase : (f.bytes.length : Int) < (i0 : Int) ∨ (¬ (f.bytes.length : Int) < (i0 : Int) ∧ (f.bytes.length : Int) - (i0 : Int) < (n : Int)) := by omega
  clear hok hfg hg m h
  rcases hcase with h1 | ⟨h1, h2⟩
  all_goals
    go_enter Tryz.func20, Tryz.ntmps20
    go_wp2_with first
      | (go_at_call 51; refine (rName_spec s _ w0 _ m1 hs).mono ?_; rintro e w2 ⟨rfl, m2⟩)
      | (go_at_call 52; refine (rfind_file s Hok.out m2).mono ?_; rintro e w3 ⟨rfl, m3⟩)
    go_ret2
    exact ⟨rfl, ref_file_same m3 Hfg.out Hok.out⟩
set_option maxRecDepth 4000 in
set_option maxHeartbeats 2000000 in
theorem rread_ok (i0 n : Nat) (g : Nat) (f : FileSt) (hn : nameOk s = true) (hg : mget M.now s = some g) (hfg : fget M.files g = some f) (h : i0 + n ≤ f.bytes.length) : Calls Tryz.prog 20 #[ptr p, .string s, .int .i64 (i0 : Int), .int .i64 (n : Int)] w fun e w' =>
    ∃ A1 c1, e = .returned (.tuple #[.slice A1 n c1, .int .i64 0]) ∧ Mod w' w0 (rowA 5 1 (.slice A1 n c1) n (u8s ((f.bytes.drop i0).take n)) * (refA p M * F)) := by
  obtain ⟨i, b, o, c, v2, A', c', hok, hi, hf, k1, m1⟩ := ref_file m hg hfg
  have hi0 : ¬ (i : Int) < 0 := by omega
  have hil : (i : Int) < (M.now.length : Int) := by omega
  have hfl : f.bytes.length ≤ 1048576 := hok.len _ (mem_of_fget _ _ _ hfg)
  have Hok := Lib.hid hok
  have Hfg := Lib.hid hfg
  have hni : ¬ (i0 : Int) < 0 := by omega
  have hnn : ¬ (n : Int) < 0 := by omega
  have h1 : ¬ (f.bytes.length : Int) < (i0 : Int) := by omega
  have h2 : ¬ (f.bytes.length : Int) - (i0 : Int) < (n : Int) := by omega
  have hcap := row_slice (Mod.to (m := m1) (sep_left_comm _ _ _))
  have r0 : Reads (rowA 5 1 (.slice A' f.bytes.length c') f.bytes.length (u8s f.bytes)) A' (f.bytes.length * 1) (u8s f.bytes) := reads_one inferInstance
  have hcc : f.bytes.length ≤ c' := by
    obtain ⟨_, _, e, h3⟩ := hcap
    injection e with _ _ e3
    rw [e3]; exact h3
  have rB := reads_sliced r0 i0 (i0 + n) c' (by omega) h (by omega)
  rw [Nat.mul_one, Nat.mul_one, Nat.add_sub_cancel_left, u8s_part] at rB
  have ha1 : (0 : Int) ≤ (i0 : Int) := by omega
  have ha2 : (i0 : Int) ≤ (i0 : Int) + (n : Int) := by omega
  have ha3 : (i0 : Int) + (n : Int) ≤ (c' : Int) := by omega
  have ha4 : ((i0 : Int) + (n : Int)).toNat = i0 + n := by omega
  obtain ⟨A1, hA1, rB'⟩ : ∃ A1, (if c' = i0 then A' else A'.map (·.add i0)) = A1 ∧ Reads (rowA 5 1 (.slice A' f.bytes.length c') f.bytes.length (u8s f.bytes)) A1 n (u8s ((f.bytes.drop i0).take n)) := ⟨_, rfl, rB⟩
  have RB := Lib.hid (reads_one rB')
  clear hok hfg hg m hcap r0 rB rB' hcc
  go_enter Tryz.func20, Tryz.ntmps20
  go_wp2_with first
    | (go_at_call 51; refine (rName_spec s _ w0 _ m1 hs).mono ?_; rintro e w2 ⟨rfl, m2⟩)
    | (go_at_call 52; refine (rfind_file s Hok.out m2).mono ?_; rintro e w3 ⟨rfl, m3⟩)
    | (at_builtin; refine wpList_append_k (v := .slice none 0 0) (n := 0) (xs := []) (k := n) (t := 46) rfl rfl (row_none_n m3) rfl rfl (reads_lift inferInstance RB.out) (one_u8s _) (by unfold maxLen; omega) (by omega) ?_; intro A2 c3 w5 m6; simp only [Nat.zero_add, List.nil_append] at m6 ⊢)
  go_ret2
  refine ⟨A2, c3, rfl, ?_⟩
  have m6' : Mod w5 w0 (rowA 5 1 (.slice A2 n c3) n (u8s ((f.bytes.drop i0).take n)) * refF p M (some ⟨b, o, none⟩) c v2 g f (.slice A' f.bytes.length c') F) := m6
  have m7 : Mod w5 w0 (refF p M (some ⟨b, o, none⟩) c v2 g f (.slice A' f.bytes.length c') (rowA 5 1 (.slice A2 n c3) n (u8s ((f.bytes.drop i0).take n)) * F)) := Mod.to (m := m6') (by unfold refF; ac_rfl)
  exact Mod.to (m := ref_file_same m7 Hfg.out Hok.out) (sep_left_comm _ _ _)
theorem rsync_arg (hn : nameOk s = false) : Calls Tryz.prog 24 #[ptr p, .string s] w fun e w' => e = .returned (.int .i64 1) ∧ Mod w' w0 (refA p M * F) := by
  go_enter Tryz.func24, Tryz.ntmps24
  go_wp2_with (go_at_call 51; refine (rName_spec s _ w0 _ m hs).mono ?_; rintro e w2 ⟨rfl, m2⟩)
  go_ret
  exact ⟨rfl, m2⟩
theorem rsync_none (hn : nameOk s = true) (hg : mget M.now s = none) : Calls Tryz.prog 24 #[ptr p, .string s] w fun e w' => e = .returned (.int .i64 7) ∧ Mod w' w0 (refA p M * F) := by
  obtain ⟨A, c, B, d, hok, _, m1⟩ := ref_open m
  have hf := findI_none hg
  have Hok := Lib.hid hok
  clear hok
  go_enter Tryz.func24, Tryz.ntmps24
  go_wp2_with first
    | (go_at_call 51; refine (rName_spec s _ w0 _ m1 hs).mono ?_; rintro e w2 ⟨rfl, m2⟩)
    | (go_at_call 52; refine (rfind_ref p M A c _ s _ w0 F Hok.out m2).mono ?_; rintro e w3 ⟨rfl, m3⟩)
  go_ret
  exact ⟨rfl, ref_shut M m3 Hok.out⟩
set_option maxRecDepth 4000 in
set_option maxHeartbeats 2000000 in
theorem rsync_some (g : Nat) (f : FileSt) (hn : nameOk s = true) (hg : mget M.now s = some g) (hfg : fget M.files g = some f) : Calls Tryz.prog 24 #[ptr p, .string s] w fun e w' => e = .returned (.int .i64 0) ∧ Mod w' w0 (refA p { M with files := fset M.files g ⟨f.bytes, f.bytes.length⟩ } * F) := by
  obtain ⟨i, b, o, c, v2, A', c', hok, hi, hf, k1, m1⟩ := ref_file m hg hfg
  have hi0 : ¬ (i : Int) < 0 := by omega
  have hil : (i : Int) < (M.now.length : Int) := by omega
  have Hok := Lib.hid hok
  have Hok2 := Lib.hid (fset_ok (f' := ⟨f.bytes, f.bytes.length⟩) hok hfg (hok.len _ (mem_of_fget _ _ _ hfg)) (Nat.le_refl _))
  have Hfg := Lib.hid hfg
  clear hok hfg hg m
  go_enter Tryz.func24, Tryz.ntmps24
  go_wp2_with first
    | (go_at_call 51; refine (rName_spec s _ w0 _ m1 hs).mono ?_; rintro e w2 ⟨rfl, m2⟩)
    | (go_at_call 52; refine (rfind_file s Hok.out m2).mono ?_; rintro e w3 ⟨rfl, m3⟩)
  obtain ⟨SS, hSS, mSS⟩ : ∃ SS, SS = refF p M (some ⟨b, o, none⟩) c v2 g f (.slice A' f.bytes.length c') F ∧ Mod w3 w0 SS := ⟨_, rfl, m3⟩
  have hb : Has SS p (.cells #[.int .i64 (M.size : Int), .slice (some ⟨b, o, none⟩) M.now.length c, v2] 105 (0, 0)) := by rw [hSS]; infer_instance
  have hb2 : Has SS g (.cells #[.slice A' f.bytes.length c', .int .i64 (f.sure : Int)] 118 (0, 0)) := by rw [hSS]; infer_instance
  have hcl : CellAt SS b (o + i * 2 + 1) (ptr g) := by rw [hSS]; infer_instance
  have HSS := Lib.hid hSS
  clear hSS m1 m2 m3 k1
  have := Held.some mSS
  refine wp_region_mod_tail 22 mSS (by kernel_rfl) (by kernel_rfl) ?_
  simp only [List.take_succ_cons, List.take_zero, List.drop_succ_cons, List.drop_zero]
  repeat (go_big_quiet_step (fail))
  refine wpQuiet_nil ?_
  rintro w9 ⟨sw, rfl⟩
  have m9 := Mod.to (m := sw.mod) HSS.out
  clear mSS hb hb2 hcl HSS this
  generalize sw.world = w9 at *
  go_wp2_with fail
  go_ret
  have m10 : Mod (w9.setCell ⟨g, 1, none⟩ (.int .i64 (f.bytes.length : Int))) w0 _ := inferInstance
  simp only [emp_sep] at m10
  exact ⟨rfl, ref_file_back (A := some ⟨b, o, none⟩) (c := c) (v2 := v2) (v := .slice A' f.bytes.length c') ⟨f.bytes, f.bytes.length⟩ m10 Hfg.out Hok2.out⟩
end
end Go.Proofs.YtcakdaadbpimaaaGreatDoor
