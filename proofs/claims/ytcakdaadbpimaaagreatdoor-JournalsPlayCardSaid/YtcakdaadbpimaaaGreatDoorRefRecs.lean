/- The walk of the reference's records (bucketlineref06): what the bytes of a journal read as; the conditions are in the theorem. -/
import Derived.Test.YtcakdaadbpimaaaGreatDoorRefRead
namespace Go.Proofs.YtcakdaadbpimaaaGreatDoor
open Go.RowKit Go.Sl
attribute [local go_sem] cell_of cellAt_of frozen_of eql_nil_bytes
/-- What has been told, and what is still to come from place p on, is all. -/
def standsP (b : List UInt8) (p : Nat) (bgn : Bool) (cur : List UInt8) (last : Nat) (rs : List (List UInt8)) : Prop := readAll b = (rs ++ (readFrom b p bgn cur last).1, (readFrom b p bgn cur last).2)
theorem standsP_end {b : List UInt8} {p : Nat} {bgn : Bool} {cur : List UInt8} {last : Nat} {rs : List (List UInt8)} (h : standsP b p bgn cur last rs) (hn : Sl.partAt b (p + gapOf p) = none) : readAll b = (rs, last) := by
  rw [h, readFrom_none hn, List.append_nil]
theorem standsP_unfit {b : List UInt8} {p : Nat} {bgn : Bool} {cur : List UInt8} {last : Nat} {rs : List (List UInt8)} {x : UInt8 × List UInt8 × Nat} (h : standsP b p bgn cur last rs) (hn : Sl.partAt b (p + gapOf p) = some x) (hk : fitKind bgn x.1 = false) : readAll b = (rs, last) := by
  rw [h, readFrom_unfit hn hk, List.append_nil]
theorem standsP_on {b : List UInt8} {p : Nat} {bgn : Bool} {cur : List UInt8} {last : Nat} {rs : List (List UInt8)} {x : UInt8 × List UInt8 × Nat} (h : standsP b p bgn cur last rs) (hn : Sl.partAt b (p + gapOf p) = some x) (hk : fitKind bgn x.1 = true) (hg : goesOn x.1 = true) :
    standsP b x.2.2 true (cur ++ x.2.1) last rs := by
  show _ = _
  rw [h, readFrom_on hn hk hg]
theorem standsP_whole {b : List UInt8} {p : Nat} {bgn : Bool} {cur : List UInt8} {last : Nat} {rs : List (List UInt8)} {x : UInt8 × List UInt8 × Nat} (h : standsP b p bgn cur last rs) (hn : Sl.partAt b (p + gapOf p) = some x) (hk : fitKind bgn x.1 = true) (hg : goesOn x.1 = false) :
    standsP b x.2.2 false [] x.2.2 (rs ++ [cur ++ x.2.1]) := by
  show _ = _
  rw [h, readFrom_whole hn hk hg, List.append_assoc]
  rfl
theorem partAt_size {b : List UInt8} {q : Nat} {x : UInt8 × List UInt8 × Nat} (h : Sl.partAt b q = some x) : q + 7 + x.2.1.length ≤ x.2.2 := by
  unfold Sl.partAt at h
  split at h
  · split at h
    · cases h
    · injection h with h
      subst h
      simp only [List.length_take]
      omega
  · cases h
set_option maxRecDepth 8000 in
set_option maxHeartbeats 8000000 in
theorem r6records_spec (B : Option Addr) (n c : Nat) (b : List UInt8) (w w0 : World) (S : Asn) (m : Mod w w0 S) (r : Reads S B n (u8s b)) (hc : n ≤ c) (hn : n ≤ 1048576) :
    Calls Tryz.prog 104 #[.slice B n c] w (ReadSays (readAll b) w0 S) := by
  have hbl := reads_len m r
  rw [length_u8s] at hbl
  have Hbl := Lib.hid hbl
  obtain ⟨rd, hrd⟩ : ∃ rd, readAll b = rd := ⟨_, rfl⟩
  have Hrd := Lib.hid hrd
  rw [hrd]
  clear hrd hbl
  go_enter Tryz.func104, Tryz.ntmps104
  go_wp2_with fail
  go_loopg [4, 5, 6, 7, 8] (n + 1) (fun gk vo vc vb ve va wr => ∃ (rs : List (List UInt8)) (last : Nat) (cur : List UInt8) (bgn : Bool) (p : Nat) (xs : List Value) (R : Asn) (Ar Ac : Option Addr) (cr cc nr nc : Nat),
    gk = n + 1 - p ∧ vo = .slice Ar nr cr ∧ vc = .slice Ac nc cc ∧ vb = .bool bgn ∧ ve = .int .i64 (last : Int) ∧ va = .int .i64 (p : Int) ∧ p ≤ n ∧ nc ≤ p ∧ nr ≤ p ∧ Hid (rs.length = nr) ∧ Hid (cur.length = nc) ∧ Hid (standsP b p bgn cur last rs) ∧ RecsIn R xs rs ∧
    Mod wr w0 (rowA 46 1 (.slice Ar nr cr) nr xs * (rowA 5 1 (.slice Ac nc cc) nc (u8s cur) * (R * S))))
  case atStart =>
    exact ⟨[], 0, [], false, 0, [], emp, none, none, 0, 0, 0, 0, rfl, rfl, rfl, rfl, rfl, rfl, Nat.zero_le _, Nat.zero_le _, Nat.zero_le _, rfl, rfl, rfl, RecsIn.nil, row_none (row_none (Mod.to (emp_sep S).symm (m := m)))⟩
  case round =>
    obtain ⟨rs, last, cur, bgn, p, xs, R, Ar, Ac, cr, cc, nr, nc, hgk, rfl, rfl, rfl, rfl, rfl, hp, hnc, hnr, Hnr, Hnc, Hst, hrec, m2⟩ := hrel
    obtain ⟨pr, hpr⟩ : ∃ pr, Sl.partAt b (p + gapOf p) = pr := ⟨_, rfl⟩
    have HR := r6read_spec p B n c b wr w0 _ m2 (reads_lift inferInstance r) hc hn hp
    rw [hpr] at HR
    have HR := Lib.hid HR
    have Hpr := Lib.hid hpr
    clear hpr
    cases pr with
    | none =>
      obtain rfl : (rs, last) = rd := by rw [← Hrd.out]; exact (standsP_end Hst.out Hpr.out).symm
      go_wp2_with (go_at_call 159; refine HR.out.mono ?_; rintro e w1 ⟨rfl, m3⟩)
      (try rw [Exit.noGoto_ret])
      go_ret2
      exact ⟨Ar, cr, xs, R, by rw [show (rs, last).1.length = nr from Hnr.out]; rfl, hrec, by rw [show (rs, last).1.length = nr from Hnr.out]; exact Mod.keep m3⟩
    | some pt =>
      obtain ⟨k, x, en⟩ := pt
      have hlt := partAt_lt Hpr.out
      simp only at hlt
      have hbn := Hbl.out
      obtain ⟨tk, htk⟩ : ∃ tk, en - p = tk := ⟨_, rfl⟩
      obtain ⟨nx, hnx⟩ : ∃ nx, x.length = nx := ⟨_, rfl⟩
      have hen : en = p + tk := by omega
      have htk7 : 7 ≤ tk := by omega
      have htn : p + tk ≤ n := by omega
      have hxn : nx + 7 ≤ tk := by
        have h := partAt_size Hpr.out
        simp only at h
        omega
      have HR2 : Hid (Calls Tryz.prog 159 #[.slice B n c, .int .i64 (p : Int)] wr fun e w' => ∃ A1 c1, e = .returned (.tuple #[.int .u8 (k.toNat : Int), .slice A1 nx c1, .int .i64 (tk : Int)]) ∧ Mod w' w0 (rowA 5 1 (.slice A1 nx c1) nx (u8s x) * (rowA 46 1 (.slice Ar nr cr) nr xs * (rowA 5 1 (.slice Ac nc cc) nc (u8s cur) * (R * S))))) := by
        refine HR.out.mono ?_
        rintro e w1 ⟨A1, c1, h1, h2⟩
        simp only [hnx, htk] at h1 h2
        exact ⟨A1, c1, h1, h2⟩
      have Hnx := Lib.hid hnx
      have hk0 := k.toNat_lt
      subst hen
      clear HR htk hnx hlt hbn
      rcases kind_cases bgn k with ⟨rfl, rfl⟩ | ⟨rfl, rfl⟩ | ⟨rfl, rfl⟩ | ⟨rfl, rfl⟩ | ⟨hf, ⟨rfl, hk1, hk2⟩ | ⟨rfl, hk1, hk2⟩⟩
      · have hkn : (((1 : UInt8).toNat : Nat) : Int) = 1 := by decide
        have Hst2 := Lib.hid (standsP_whole Hst.out Hpr.out (by rfl) (by rfl))
        clear Hst Hpr
        go_wp2_with first
          | (go_at_call 159; refine HR2.out.mono ?_; rintro e w1 ⟨A1, c1, rfl, m3⟩)
          | (at_builtin; refine wpList_append (v := .slice Ac nc cc) (A := A1) (k := nx) (c := c1) (news := u8s x) rfl rfl m3 rfl rfl (one_u8s _) (by unfold maxLen; omega) (by omega) ?_; intro A2 c2 w2 m4; refine Hid.out ?_)
        have m5 := Mod.keep (T := rowA 5 1 (.slice A2 (nc + nx) c2) (nc + nx) (u8s cur ++ u8s x) * (rowA 46 1 (.slice Ar nr cr) nr xs * (R * S))) m4
        rw [← u8s_append] at m5
        have hlc : (cur ++ x).length = nc + nx := by rw [List.length_append, Hnc.out, Hnx.out]
        have Hlc := Lib.hid hlc
        clear m4 hlc m2
        refine Lib.hid ?_
        go_wp2_with first
          | (at_builtin; refine wpList_append (m := row_none (e := 5) m5) (v := .slice none 0 0) (A := A2) (k := nc + nx) (c := c2) (news := u8s (cur ++ x)) rfl rfl rfl rfl (one_u8s _) (by unfold maxLen; omega) (by omega) ?_; intro A3 c3 w3 m6; simp only [Nat.zero_add, List.nil_append] at m6; refine Hid.out ?_)
        have hle := row_le (m := m6)
        refine Lib.hid ?_
        go_wp2_with first
          | (at_builtin; refine wpList_append (v := .slice Ar nr cr) (A := some ⟨w3.heap.size, 0, none⟩) (k := 1) (c := 1) (news := [.slice A3 (nc + nx) c3]) (r := reads_blk rfl rfl) rfl rfl inferInstance rfl rfl (by simp [Value.oneCell']) (by unfold maxLen; omega) (by omega) ?_; intro A4 c4 w4 m7)
        have hrs := RecsIn.snoc hrec A3 c3 (cur ++ x) (by rw [Hlc.out]; exact hle)
        rw [Hlc.out] at hrs
        have m8 := Mod.keep (T := rowA 46 1 (.slice A4 (nr + 1) c4) (nr + 1) (xs ++ [.slice A3 (nc + nx) c3]) * (rowA 5 1 (.slice A3 (nc + nx) c3) (nc + nx) (u8s (cur ++ x)) * (R * S))) m7
        go_roundg (n + 1 - (p + tk))
        case measure => omega
        case rel => exact ⟨rs ++ [cur ++ x], p + tk, [], false, p + tk, _, _, A4, none, c4, 0, nr + 1, 0, rfl, rfl, rfl, rfl, by go_num, by go_num, htn, by omega, by omega, by show _ = _; rw [List.length_append, Hnr.out]; rfl, rfl, Hst2, hrs, Mod.to (m := row_none (e := 5) m8) (by show _ = _ * (rowA 5 1 (.slice none 0 0) 0 [] * _); ac_rfl)⟩
      · have hkn : (((2 : UInt8).toNat : Nat) : Int) = 2 := by decide
        have Hst2 := Lib.hid (standsP_on Hst.out Hpr.out (by rfl) (by rfl))
        clear Hst Hpr
        go_wp2_with first
          | (go_at_call 159; refine HR2.out.mono ?_; rintro e w1 ⟨A1, c1, rfl, m3⟩)
          | (at_builtin; refine wpList_append (v := .slice Ac nc cc) (A := A1) (k := nx) (c := c1) (news := u8s x) rfl rfl m3 rfl rfl (one_u8s _) (by unfold maxLen; omega) (by omega) ?_; intro A2 c2 w2 m4; refine Hid.out ?_)
        have m5 := Mod.keep (T := rowA 5 1 (.slice A2 (nc + nx) c2) (nc + nx) (u8s cur ++ u8s x) * (rowA 46 1 (.slice Ar nr cr) nr xs * (R * S))) m4
        rw [← u8s_append] at m5
        have hlc : (cur ++ x).length = nc + nx := by rw [List.length_append, Hnc.out, Hnx.out]
        have Hlc := Lib.hid hlc
        clear m4 hlc m2
        refine Lib.hid ?_
        go_wp2_with fail
        go_roundg (n + 1 - (p + tk))
        case measure => omega
        case rel => exact ⟨rs, last, cur ++ x, true, p + tk, xs, R, Ar, A2, cr, c2, nr, nc + nx, rfl, rfl, rfl, rfl, rfl, by go_num, htn, by omega, by omega, Hnr, Hlc, Hst2, hrec, Mod.to (m := m5) (by ac_rfl)⟩
      · have hkn : (((3 : UInt8).toNat : Nat) : Int) = 3 := by decide
        have Hst2 := Lib.hid (standsP_on Hst.out Hpr.out (by rfl) (by rfl))
        clear Hst Hpr
        go_wp2_with first
          | (go_at_call 159; refine HR2.out.mono ?_; rintro e w1 ⟨A1, c1, rfl, m3⟩)
          | (at_builtin; refine wpList_append (v := .slice Ac nc cc) (A := A1) (k := nx) (c := c1) (news := u8s x) rfl rfl m3 rfl rfl (one_u8s _) (by unfold maxLen; omega) (by omega) ?_; intro A2 c2 w2 m4; refine Hid.out ?_)
        have m5 := Mod.keep (T := rowA 5 1 (.slice A2 (nc + nx) c2) (nc + nx) (u8s cur ++ u8s x) * (rowA 46 1 (.slice Ar nr cr) nr xs * (R * S))) m4
        rw [← u8s_append] at m5
        have hlc : (cur ++ x).length = nc + nx := by rw [List.length_append, Hnc.out, Hnx.out]
        have Hlc := Lib.hid hlc
        clear m4 hlc m2
        refine Lib.hid ?_
        go_wp2_with fail
        go_roundg (n + 1 - (p + tk))
        case measure => omega
        case rel => exact ⟨rs, last, cur ++ x, true, p + tk, xs, R, Ar, A2, cr, c2, nr, nc + nx, rfl, rfl, rfl, rfl, rfl, by go_num, htn, by omega, by omega, Hnr, Hlc, Hst2, hrec, Mod.to (m := m5) (by ac_rfl)⟩
      · have hkn : (((4 : UInt8).toNat : Nat) : Int) = 4 := by decide
        have Hst2 := Lib.hid (standsP_whole Hst.out Hpr.out (by rfl) (by rfl))
        clear Hst Hpr
        go_wp2_with first
          | (go_at_call 159; refine HR2.out.mono ?_; rintro e w1 ⟨A1, c1, rfl, m3⟩)
          | (at_builtin; refine wpList_append (v := .slice Ac nc cc) (A := A1) (k := nx) (c := c1) (news := u8s x) rfl rfl m3 rfl rfl (one_u8s _) (by unfold maxLen; omega) (by omega) ?_; intro A2 c2 w2 m4; refine Hid.out ?_)
        have m5 := Mod.keep (T := rowA 5 1 (.slice A2 (nc + nx) c2) (nc + nx) (u8s cur ++ u8s x) * (rowA 46 1 (.slice Ar nr cr) nr xs * (R * S))) m4
        rw [← u8s_append] at m5
        have hlc : (cur ++ x).length = nc + nx := by rw [List.length_append, Hnc.out, Hnx.out]
        have Hlc := Lib.hid hlc
        clear m4 hlc m2
        refine Lib.hid ?_
        go_wp2_with first
          | (at_builtin; refine wpList_append (m := row_none (e := 5) m5) (v := .slice none 0 0) (A := A2) (k := nc + nx) (c := c2) (news := u8s (cur ++ x)) rfl rfl rfl rfl (one_u8s _) (by unfold maxLen; omega) (by omega) ?_; intro A3 c3 w3 m6; simp only [Nat.zero_add, List.nil_append] at m6; refine Hid.out ?_)
        have hle := row_le (m := m6)
        refine Lib.hid ?_
        go_wp2_with first
          | (at_builtin; refine wpList_append (v := .slice Ar nr cr) (A := some ⟨w3.heap.size, 0, none⟩) (k := 1) (c := 1) (news := [.slice A3 (nc + nx) c3]) (r := reads_blk rfl rfl) rfl rfl inferInstance rfl rfl (by simp [Value.oneCell']) (by unfold maxLen; omega) (by omega) ?_; intro A4 c4 w4 m7)
        have hrs := RecsIn.snoc hrec A3 c3 (cur ++ x) (by rw [Hlc.out]; exact hle)
        rw [Hlc.out] at hrs
        have m8 := Mod.keep (T := rowA 46 1 (.slice A4 (nr + 1) c4) (nr + 1) (xs ++ [.slice A3 (nc + nx) c3]) * (rowA 5 1 (.slice A3 (nc + nx) c3) (nc + nx) (u8s (cur ++ x)) * (R * S))) m7
        go_roundg (n + 1 - (p + tk))
        case measure => omega
        case rel => exact ⟨rs ++ [cur ++ x], p + tk, [], false, p + tk, _, _, A4, none, c4, 0, nr + 1, 0, rfl, rfl, rfl, rfl, by go_num, by go_num, htn, by omega, by omega, by show _ = _; rw [List.length_append, Hnr.out]; rfl, rfl, Hst2, hrs, Mod.to (m := row_none (e := 5) m8) (by show _ = _ * (rowA 5 1 (.slice none 0 0) 0 [] * _); ac_rfl)⟩
      · have hd1 : ((k.toNat : Int) != 1) = true := bne_iff_ne.2 (by omega)
        have hd2 : ((k.toNat : Int) != 2) = true := bne_iff_ne.2 (by omega)
        obtain rfl : (rs, last) = rd := by rw [← Hrd.out]; exact (standsP_unfit Hst.out Hpr.out hf).symm
        clear hk1 hk2 hf
        go_wp2_with (go_at_call 159; refine HR2.out.mono ?_; rintro e w1 ⟨A1, c1, rfl, m3⟩)
        (try rw [Exit.noGoto_ret])
        go_ret2
        exact ⟨Ar, cr, xs, R, by rw [show (rs, last).1.length = nr from Hnr.out]; rfl, hrec, by rw [show (rs, last).1.length = nr from Hnr.out]; exact Mod.keep m3⟩
      · have hd1 : ((k.toNat : Int) != 3) = true := bne_iff_ne.2 (by omega)
        have hd2 : ((k.toNat : Int) != 4) = true := bne_iff_ne.2 (by omega)
        obtain rfl : (rs, last) = rd := by rw [← Hrd.out]; exact (standsP_unfit Hst.out Hpr.out hf).symm
        clear hk1 hk2 hf
        go_wp2_with (go_at_call 159; refine HR2.out.mono ?_; rintro e w1 ⟨A1, c1, rfl, m3⟩)
        (try rw [Exit.noGoto_ret])
        go_ret2
        exact ⟨Ar, cr, xs, R, by rw [show (rs, last).1.length = nr from Hnr.out]; rfl, hrec, by rw [show (rs, last).1.length = nr from Hnr.out]; exact Mod.keep m3⟩
end Go.Proofs.YtcakdaadbpimaaaGreatDoor
