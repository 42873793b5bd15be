/- law01's Book: each list of bytes that is held is made longer: a contract over the small separation logic. -/
import Derived.Test.YtcakdaadbpimaaaGreatDoorBook
namespace Go.Proofs.YtcakdaadbpimaaaGreatDoor
open Go.RowKit Go.Sl
attribute [local go_sem] cell_of cellAt_of frozen_of
abbrev marks (n num : Nat) : List Value := List.replicate n (.int .u8 (mark num))
/-- A list that is held, and the longer one. -/
def Long (X : Asn) (p : Value × Value) (num : Nat) : Prop :=
  ∃ (a : Option Addr) (nv c : Nat) (A2 : Option Addr) (c2 : Nat), p = (.slice a nv c, .slice A2 (nv + 40) c2) ∧ nv ≤ 10000000 ∧ Reads X a nv (marks nv num) ∧ Reads X A2 (nv + 40) (marks (nv + 40) num)
theorem Long.lift {X X' : Asn} {p : Value × Value} {num : Nat} (s : Sub X' X) (h : Long X p num) : Long X' p num := by
  obtain ⟨a, nv, c, A2, c2, h1, h2, h3, h4⟩ := h
  exact ⟨a, nv, c, A2, c2, h1, h2, reads_lift s h3, reads_lift s h4⟩
theorem marks_pre (n k num : Nat) : (marks (n + k) num).take n = marks n num := by
  unfold marks; rw [List.take_replicate]; congr 1; omega
theorem row_pre {A : Option Addr} {n k c num : Nat} : Reads (rowA 5 1 (.slice A (n + k) c) (n + k) (marks (n + k) num)) A n (marks n num) := by
  have h := Reads.pre (inferInstance : Reads (rowA 5 1 (.slice A (n + k) c) (n + k) (marks (n + k) num)) A (n + k) (marks (n + k) num)) n (by omega)
  rwa [marks_pre] at h
set_option maxRecDepth 4000 in
set_option maxHeartbeats 4000000 in
theorem grow_spec (k : Nat) (B : Option Addr) (cB : Nat) (M : List Hd) (w w0 : World) (F : Asn) (hL : M.length ≤ 20000000) (hv : ∀ h ∈ M, h.vs.length ≤ 10000000) (hM : ∀ i (h : i < M.length), M[i].vs = marks M[i].vs.length (i + 1))
    (m : Mod w w0 (Go.Sl.blk k (.cells #[.int .i64 (M.length : Int), (.slice B M.length cB), .slice none 0 0, .slice none 0 0, .slice none 0 0, .slice none 0 0, .slice none 0 0, .slice none 0 0, .slice none 0 0, .slice none 0 0, .slice none 0 0, .slice none 0 0, .slice none 0 0, .slice none 0 0] 45 (0, 0)) * (rowA 159 3 (.slice B M.length cB) M.length (hdCells (psOf M)) * (rowsA M * F)))) : Calls Tryz.prog 76 #[ptr k] w fun e w' => e = .returned (.tuple #[]) ∧ ∃ (ps : List (Value × Value)) (X : Asn), ps.length = M.length ∧ (∀ j (h : j < ps.length), Long X ps[j] (j + 1)) ∧ Mod w' w0 (Go.Sl.blk k (.cells #[.int .i64 (M.length : Int), (.slice B M.length cB), .slice none 0 0, .slice none 0 0, .slice none 0 0, .slice none 0 0, .slice none 0 0, .slice none 0 0, .slice none 0 0, .slice none 0 0, .slice none 0 0, .slice none 0 0, .slice none 0 0, .slice none 0 0] 45 (0, 0)) * (rowA 159 3 (.slice B M.length cB) M.length (hdCells ps) * (X * F))) := by
  obtain ⟨n, hn⟩ : ∃ n, M.length = n := ⟨_, rfl⟩
  have Hn := Lib.hid hn
  rw [hn] at hL m ⊢
  clear hn
  have Hv := Lib.hid hv
  have HM := Lib.hid hM
  clear hv hM
  go_enter Tryz.func76, Tryz.ntmps76
  go_wp2_with fail
  go_loopg [2] n (fun gk iv wr => ∃ (i : Nat) (ps : List (Value × Value)) (X : Asn), i ≤ n ∧ gk = n - i ∧ iv = .int .i64 (i : Int) ∧ Hid (ps.length = n ∧ ps.drop i = (psOf M).drop i ∧ ∀ j (h : j < ps.length), j < i → Long X ps[j] (j + 1)) ∧ Mod wr w0 (Go.Sl.blk k (.cells #[.int .i64 (n : Int), (.slice B n cB), .slice none 0 0, .slice none 0 0, .slice none 0 0, .slice none 0 0, .slice none 0 0, .slice none 0 0, .slice none 0 0, .slice none 0 0, .slice none 0 0, .slice none 0 0, .slice none 0 0, .slice none 0 0] 45 (0, 0)) * (rowA 159 3 (.slice B n cB) n (hdCells ps) * (X * (rowsA (M.drop i) * F)))))
  case atStart => exact ⟨0, psOf M, emp, Nat.zero_le _, rfl, rfl, ⟨by rw [psOf_length]; exact Hn.out, rfl, fun j _ h => absurd h (Nat.not_lt_zero j)⟩, Mod.to (m := m) (by rw [emp_sep, List.drop_zero])⟩
  case round =>
    obtain ⟨i, ps, X, hi, hgk, rfl, HP, m1⟩ := hrel
    by_cases hlt : i < n
    · have hii : (i : Int) < (n : Int) := by omega
      have hil : i < M.length := by rw [Hn.out]; exact hlt
      have hip : i < ps.length := by rw [HP.out.1]; exact hlt
      obtain ⟨g, cur, rfl, h1, h2, h3, h4, h5, m2⟩ := row_open_n (Mod.to (m := m1) (sep_left_comm _ _ _)) (by omega)
      obtain ⟨e0, e1, e2⟩ := hdFrom_at ps 0 i hip
      have ep : ps[i] = (.slice M[i].a M[i].vs.length M[i].c, .slice none 0 0) := by
        have h6 : (ps.drop i)[0]? = ((psOf M).drop i)[0]? := by rw [HP.out.2.1]
        rw [List.getElem?_drop, List.getElem?_drop, Nat.add_zero] at h6
        have h7 : i < (psOf M).length := by rw [psOf_length]; exact hil
        rw [List.getElem?_eq_getElem hip, List.getElem?_eq_getElem h7] at h6
        have h8 := Option.some.inj h6
        rw [h8]
        simp [psOf]
      have up : ∀ (j : Nat) (v : Value), j < n * 3 → (hdCells ps)[j]? = some v → cur[j]? = some v := by
        intro j v hj hv
        rw [← h5, List.getElem?_take, if_pos hj, Array.getElem?_toList] at hv
        exact hv
      have q0 := up _ _ (by omega) e0
      have q1 := up _ _ (by omega) e1
      have q2 := up _ _ (by omega) e2
      clear up e0 e1 e2
      rw [ep] at q0 q1
      simp only [Nat.zero_add] at q0 q1 q2
      have hvi := Hv.out _ (List.getElem_mem hil)
      have hMi := HM.out i hil
      rw [rows_next hil] at m2
      rw [hMi] at m2
      obtain ⟨Y, hY⟩ : ∃ Y, rowsA (M.drop (i + 1)) = Y := ⟨_, rfl⟩
      rw [hY] at m2
      have HY := Lib.hid hY
      clear hY
      have HT : Hid (∀ v, (hdCells ps).set (i * 3 + 1) v = hdCells (ps.set i (.slice M[i].a M[i].vs.length M[i].c, v))) := fun v => by
        have := hdFrom_set ps 0 i v hip
        rw [ep] at this
        exact this.symm
      rw [List.length_replicate] at m2
      generalize M[i].a = la at *
      generalize M[i].c = lc at *
      generalize M[i].vs = vs at *
      obtain ⟨nv, hnv⟩ : ∃ nv, vs.length = nv := ⟨_, rfl⟩
      rw [hnv] at m2 q0 hvi HT
      obtain ⟨num, hnum⟩ : ∃ num, i + 1 = num := ⟨_, rfl⟩
      rw [hnum] at q2 m2
      have Hnum := Lib.hid hnum
      have H3 := Lib.hid h3
      have H4 := Lib.hid h4
      have H5 := Lib.hid h5
      clear hnum hMi hnv h3 h4 h5 ep m1 hip hil
      go_wp2_with fail
      obtain ⟨W, hW⟩ : ∃ W, wr.alloc (.cells #[.slice la nv lc, .slice none 0 0, .int .i64 (num : Int)] 159) = W := ⟨_, rfl⟩
      obtain ⟨gh, hgh⟩ : ∃ gh, wr.heap.size = gh := ⟨_, rfl⟩
      have ma : Mod (wr.alloc (.cells #[.slice la nv lc, .slice none 0 0, .int .i64 (num : Int)] 159)) w0 (Go.Sl.blk wr.heap.size (.cells #[.slice la nv lc, .slice none 0 0, .int .i64 (num : Int)] 159 (0, 0)) * _) := Mod.alloc (m := m2) _
      rw [hW, hgh] at ma
      rw [hW, hgh]
      clear hW hgh
      have mI : Mod W w0 (rowA 5 1 (.slice la (nv + 0) lc) (nv + 0) (marks (nv + 0) num) * (emp * (Go.Sl.blk gh (.cells #[.slice la nv lc, .slice none 0 0, .int .i64 (num : Int)] 159 (0, 0)) * (Go.Sl.blk k (.cells #[.int .i64 (n : Int), (.slice (some ⟨g, 0, none⟩) n cB), .slice none 0 0, .slice none 0 0, .slice none 0 0, .slice none 0 0, .slice none 0 0, .slice none 0 0, .slice none 0 0, .slice none 0 0, .slice none 0 0, .slice none 0 0, .slice none 0 0, .slice none 0 0] 45 (0, 0)) * (Go.Sl.blk g (.cells cur 159 (0, 0)) * (X * (Y * F))))))) := Mod.to (m := ma) (by rw [emp_sep]; simp only [Nat.add_zero]; ac_rfl)
      clear ma m2
      obtain ⟨G, hG⟩ : ∃ G, Go.Sl.blk k (.cells #[.int .i64 (n : Int), (.slice (some ⟨g, 0, none⟩) n cB), .slice none 0 0, .slice none 0 0, .slice none 0 0, .slice none 0 0, .slice none 0 0, .slice none 0 0, .slice none 0 0, .slice none 0 0, .slice none 0 0, .slice none 0 0, .slice none 0 0, .slice none 0 0] 45 (0, 0)) * (Go.Sl.blk g (.cells cur 159 (0, 0)) * (X * (Y * F))) = G := ⟨_, rfl⟩
      rw [hG] at mI
      have HG := Lib.hid hG
      clear hG
      have hnl : num ≤ 20000001 := by have := Hnum.out; omega
      go_loopg [4, 5] 40 (fun gk lv jv wr => ∃ (j : Nat) (A2 : Option Addr) (c2 : Nat) (K : Asn), j ≤ 40 ∧ gk = 40 - j ∧ lv = .slice A2 (nv + j) c2 ∧ jv = .int .i64 (j : Int) ∧ Hid (A2 = la ∨ Reads K la nv (marks nv num)) ∧ Mod wr w0 (rowA 5 1 (.slice A2 (nv + j) c2) (nv + j) (marks (nv + j) num) * (K * (Go.Sl.blk gh (.cells #[.slice la nv lc, .slice none 0 0, .int .i64 (num : Int)] 159 (0, 0)) * G))))
      case atStart => exact ⟨0, la, lc, emp, Nat.zero_le _, rfl, rfl, rfl, .inl rfl, mI⟩
      case round =>
        obtain ⟨j, A2, c2, K, hj, hgj, rfl, rfl, HK, m3⟩ := hrel
        by_cases hjt : j < 40
        · have hjj : (j : Int) < 40 := by omega
          obtain ⟨nj, hnj⟩ : ∃ nj, nv + j = nj := ⟨_, rfl⟩
          rw [hnj] at m3
          rw [hnj]
          have Hnj := Lib.hid hnj
          have hnj2 : nj ≤ 10000040 := by omega
          clear hnj
          go_wp2_with first
            | (go_at_call 129; refine (markByte_spec num _ w0 _ m3 hnl).mono ?_; rintro e w4 ⟨rfl, m4⟩; clear m3)
            | (at_builtin; refine wpList_mod (w0 := w0) ?_; intro mw; have mx := Mod.pull (m := mw) (rowA 5 1 (.slice A2 nj c2) nj (marks nj num)); refine wpList_append_keep (t := 46) (k := 1) (c := 1) (A := ⟨w4.heap.size, 0, none⟩) (news := [.int .u8 (mark num)]) rfl rfl mx rfl rfl (reads_blk rfl rfl) (by decide) (by simp [Value.oneCell']) (by unfold maxLen; omega) (by omega) ?_; clear mw mx; intro A3 c3 w5 K2 m5 hk5; have Hk5 := Lib.hid hk5; clear hk5)
          have e8 : marks nj num ++ [.int .u8 (mark num)] = marks (nv + (j + 1)) num := by
            have : nv + (j + 1) = nj + 1 := by have := Hnj.out; omega
            rw [this]
            exact (List.replicate_succ' ..).symm
          have e9 : nj + 1 = nv + (j + 1) := by have := Hnj.out; omega
          have HK2 : Hid (A3 = la ∨ Reads (K2 * K) la nv (marks nv num)) := by
            show _ ∨ _
            rcases Hk5.out with rfl | rfl
            · rcases HK.out with h | h
              · exact .inl h
              · exact .inr (reads_lift inferInstance h)
            · rcases HK.out with rfl | h
              · refine .inr (reads_lift (S := rowA 5 1 (.slice A2 nj c2) nj (marks nj num)) inferInstance ?_)
                rw [← Hnj.out]
                exact row_pre
              · exact .inr (reads_lift inferInstance h)
          rw [e8] at m5
          go_roundg (40 - (j + 1))
          case measure => omega
          case rel => exact ⟨j + 1, A3, c3, K2 * K, hjt, rfl, by rw [e9], by go_num, HK2.out, by rw [e9] at m5; exact Mod.drop (A := Go.Sl.blk w4.heap.size (.cells #[.int .u8 (mark num)] 5 (0, 0))) (m := Mod.to (m := m5) (by ac_rfl))⟩
        · have hin : j = 40 := by omega
          subst hin
          have hjj : ¬ ((40 : Nat) : Int) < 40 := by omega
          rw [← HG.out] at m3
          have hic : i * 3 + 1 < cur.size := (Array.getElem?_eq_some_iff.1 q1).1
          have HL : Hid (Long (X * (rowA 5 1 (.slice A2 (nv + 40) c2) (nv + 40) (marks (nv + 40) num) * K)) (.slice la nv lc, .slice A2 (nv + 40) c2) num) := by
            refine ⟨la, nv, lc, A2, c2, rfl, hvi, ?_, inferInstance⟩
            rcases HK.out with rfl | h
            · exact reads_lift (S := rowA 5 1 (.slice A2 (nv + 40) c2) (nv + 40) (marks (nv + 40) num)) inferInstance row_pre
            · exact reads_lift inferInstance h
          clear hic
          go_wp2_with fail
          have m8 : Mod (wr.setCell ⟨g, i * 3 + 1, none⟩ (.slice A2 (nv + 40) c2)) w0 _ := inferInstance
          simp only [emp_sep] at m8
          have m9 := row_shut_n (size := 3) (n := n) (c := cB) (xs := hdCells (ps.set i (.slice la nv lc, .slice A2 (nv + 40) c2))) m8 h1 h2 (by rw [Array.size_setIfInBounds]; exact H4.out) (by rw [hdFrom_length, List.length_set, HP.out.1]) (by rw [Array.toList_setIfInBounds, List.take_set, H5.out]; exact HT.out _)
          rw [← HY.out] at m9
          have HP2 : Hid ((ps.set i (.slice la nv lc, .slice A2 (nv + 40) c2)).length = n ∧ (ps.set i (.slice la nv lc, .slice A2 (nv + 40) c2)).drop (i + 1) = (psOf M).drop (i + 1) ∧ ∀ j (h : j < (ps.set i (.slice la nv lc, .slice A2 (nv + 40) c2)).length), j < i + 1 → Long (X * (rowA 5 1 (.slice A2 (nv + 40) c2) (nv + 40) (marks (nv + 40) num) * K)) (ps.set i (.slice la nv lc, .slice A2 (nv + 40) c2))[j] (j + 1)) := by
            refine ⟨by rw [List.length_set]; exact HP.out.1, ?_, fun j h hj => ?_⟩
            · rw [List.drop_set_of_lt (by omega), ← List.drop_drop, ← List.drop_drop, HP.out.2.1]
            · rw [List.length_set] at h
              rw [List.getElem_set]
              split
              · rename_i e; subst e; rw [Hnum.out]; exact HL.out
              · exact Long.lift inferInstance (HP.out.2.2 j h (by omega))
          go_roundg (n - (i + 1))
          case measure => omega
          case rel => exact ⟨i + 1, _, _, hlt, rfl, by go_num, HP2.out, Mod.drop (A := Go.Sl.blk gh (.cells #[.slice la nv lc, .slice none 0 0, .int .i64 (num : Int)] 159 (0, 0))) (m := Mod.to (m := m9) (by ac_rfl))⟩
    · have hin : i = n := by omega
      have hii : ¬ (i : Int) < (n : Int) := by omega
      subst hin
      rw [List.drop_eq_nil_of_le (by rw [Hn.out]; exact Nat.le_refl _)] at m1
      have m8 : Mod wr w0 (Go.Sl.blk k (.cells #[.int .i64 (i : Int), (.slice B i cB), .slice none 0 0, .slice none 0 0, .slice none 0 0, .slice none 0 0, .slice none 0 0, .slice none 0 0, .slice none 0 0, .slice none 0 0, .slice none 0 0, .slice none 0 0, .slice none 0 0, .slice none 0 0] 45 (0, 0)) * (rowA 159 3 (.slice B i cB) i (hdCells ps) * (X * F))) := Mod.to (m := m1) (by show _ * (_ * (_ * (emp * _))) = _; rw [emp_sep])
      have M8 := Lib.hid m8
      clear m8
      go_wp2_with fail
      go_end0
      exact ⟨rfl, ps, HP.out.1, X, fun j h => HP.out.2.2 j h (by rw [HP.out.1] at h; exact h), M8.out⟩
end Go.Proofs.YtcakdaadbpimaaaGreatDoor
