/- The walk of JournalsSure: it returns true and changes nothing that was there; no condition. -/
import Derived.Test.YtmpgnnjhgjfgaaaDoorJournalsCutWalk
import Derived.Test.YtmpgnnjhgjfgaaaDoorLeft
namespace Go.Proofs.YtmpgnnjhgjfgaaaDoor
open Go.RowKit Go.Sl
attribute [local go_sem] cell_of frozen_of zero_names conv_const conv_bs conv_nil make_bytes
theorem jay_names (p g : Nat) (b : List UInt8) (su : Nat) (sd : Dir) (w w0 : World) (S F : Asn) (m : Mod w w0 S) (t : Take S (diskA p) (jay g b su sd) F) : Calls Tryd.prog 22 #[ptr p] w fun e w' => e = .returned (.int .i64 0) ∧ Mod w' w0 (diskA p (jay g b su [(nj, g)]) * F) := by
  refine (names_spec p (jay g b su sd) w w0 S F m t).mono ?_
  rintro e w' ⟨h1, h2⟩
  exact ⟨h1, h2⟩
/-- Where a journal's records end. -/
abbrev J (rs : List (List UInt8)) (i : Nat) : Nat := (journal [] (rs.take i)).length
/-- What is known ahead of a round. -/
def sureRel (rs : List (List UInt8)) (g K keep i Fr W L su : Nat) (sd : Dir) : Prop :=
  i ≤ K ∧ Fr = 0 ∧ W = K ∧ L = keep ∧ su = 0 ∧ sd = [] ∨ K < i ∧ Fr = J rs K ∧ su = J rs K ∧ sd = [(nj, g)] ∧ K ≤ W ∧ W < i ∧ J rs W ≤ keep + J rs K ∧ L + J rs W = keep + J rs K ∧ (W + 1 < i → keep + J rs K < J rs (W + 1))
section
variable {rs : List (List UInt8)} {g K keep i Fr W L su : Nat} {sd : Dir}
/-- .. behind the K-th. -/
def SureBehind (rs : List (List UInt8)) (g K keep i Fr W L su : Nat) (sd : Dir) : Prop := Fr = J rs K ∧ su = J rs K ∧ sd = [(nj, g)] ∧ K ≤ W ∧ W < i ∧ J rs W ≤ keep + J rs K ∧ L + J rs W = keep + J rs K ∧ (W + 1 < i → keep + J rs K < J rs (W + 1))
theorem sure_ahead (h : sureRel rs g K keep i Fr W L su sd) (hi : i ≤ K) : Fr = 0 ∧ W = K ∧ L = keep ∧ su = 0 ∧ sd = [] := by
  rcases h with h | h
  · exact h.2
  · omega
theorem sure_behind (h : sureRel rs g K keep i Fr W L su sd) (hi : K < i) : SureBehind rs g K keep i Fr W L su sd := by
  rcases h with h | h
  · omega
  · exact h.2
theorem sure_a (h : i < K) (h1 : Fr = 0) (h2 : W = K) (h3 : L = keep) : sureRel rs g K keep (i + 1) Fr W L 0 [] := .inl ⟨h, h1, h2, h3, rfl, rfl⟩
theorem sure_b (h : i = K) (h2 : W = K) (h3 : L = keep) : sureRel rs g K keep (i + 1) (J rs i) W L (J rs i) [(nj, g)] := by
  subst h h2 h3
  exact .inr ⟨by omega, rfl, rfl, rfl, Nat.le_refl _, by omega, Nat.le_add_left _ _, rfl, fun h => by omega⟩
theorem sure_c1 {L2 : Nat} (hi : K < i) (h : SureBehind rs g K keep i Fr W L su sd) (h1 : ((J rs i : Nat) : Int) - (Fr : Int) ≤ (keep : Int)) (h2 : (keep : Int) - (((J rs i : Nat) : Int) - (Fr : Int)) = (L2 : Int)) : sureRel rs g K keep (i + 1) Fr i L2 su sd := by
  obtain ⟨h3, h4, h5, h6, h7, h8, h9, h10⟩ := h
  exact .inr ⟨by omega, h3, h4, h5, by omega, by omega, by omega, by omega, fun h => by omega⟩
theorem sure_c2 (hi : K < i) (h : SureBehind rs g K keep i Fr W L su sd) (h1 : (keep : Int) < ((J rs i : Nat) : Int) - (Fr : Int)) : sureRel rs g K keep (i + 1) Fr W L su sd := by
  obtain ⟨h3, h4, h5, h6, h7, h8, h9, h10⟩ := h
  refine .inr ⟨by omega, h3, h4, h5, h6, by omega, h8, h9, fun h => ?_⟩
  rcases Nat.lt_or_ge (W + 1) i with h11 | h11
  · exact h10 h11
  · obtain rfl : W + 1 = i := by omega
    omega
end
set_option maxRecDepth 4000 in
set_option maxHeartbeats 4000000 in
theorem journalsSure_run (B1 : Option Addr) (n c1 : Nat) (rs : List (List UInt8)) (sure keep : Nat) (w w0 : World) (S : Asn) (m : Mod w w0 S) (r1 : ReadsRecs S B1 n rs) (hc : n ≤ c1) (hn : n ≤ 4611686018427387903) (hxs : ∀ s ∈ rs, s.length ≤ 4611686018427387904) (hsure : sure < 256) (hkeep : keep < 65536) :
    Calls Tryd.prog 7 #[.slice B1 n c1, .int .u8 (sure : Int), .int .u16 (keep : Int)] w fun e w' => e = .returned (.bool true) ∧ Mod w' w0 S := by
  have hl := r1.len
  obtain ⟨t1, t2⟩ := recsSize_gt rs n
  have HT := Lib.hid t2
  have Hxs := Lib.hid hxs
  have Hl := Lib.hid hl
  clear t2 hxs hl
  by_cases hlen : 40 < n
  · go_enter Tryd.func7, Tryd.ntmps7
    go_wp2_with first
      | (go_at_call 10; refine (alive6_spec _ w0 _ (by assumption)).mono ?_; rintro e w1 ⟨rfl, _m1⟩; try clear m)
    go_ret
    exact ⟨rfl, _m1⟩
  · have HC := Lib.hid (fun (u : World) (mu : Mod u w0 S) => recordsSize_spec B1 n c1 rs u w0 S mu r1 (by omega) Hxs.out)
    obtain ⟨sz, hsz⟩ : ∃ sz, recsSize n rs = sz := ⟨_, rfl⟩
    rw [hsz] at HC HT
    clear hsz
    by_cases h7 : 40000 < sz
    · go_enter Tryd.func7, Tryd.ntmps7
      go_wp2_with fail
      refine (alive6_spec _ w0 _ m).mono ?_
      rintro e w1 ⟨rfl, m1⟩
      go_wp2_with fail
      refine (HC.out w1 m1).mono ?_
      rintro e w2 ⟨rfl, m2⟩
      go_wp2_with fail
      refine (alive6_spec _ w0 _ m2).mono ?_
      rintro e w3 ⟨rfl, m3⟩
      go_wp2_with fail
      go_ret
      exact ⟨rfl, m3⟩
    · have Hsz := Lib.hid (HT.out (by omega))
      clear HT
      go_enter Tryd.func7, Tryd.ntmps7
      go_wp2_with fail
      refine (alive6_spec _ w0 _ m).mono ?_
      rintro e w1 ⟨rfl, m1⟩
      go_wp2_with fail
      refine (HC.out w1 m1).mono ?_
      rintro e w2 ⟨rfl, m2⟩
      go_wp2_with fail
      refine (opened6_spec w2 w0 S m2).mono ?_
      rintro e w3 ⟨p, j, g, rfl, m3⟩
      go_wp2_with fail
      all_goals skip
      · have hJ : ∀ i, (journal [] (rs.take i)).length ≤ 100000 := fun i => by
          have := journal_le rs [] i
          rw [sum_sizes] at this
          have h1 := Hsz.out
          have h2 := Hl.out
          simp only [List.length_nil] at this
          omega
        have HJ := Lib.hid hJ
        clear hJ m m1 m2 HC
        obtain ⟨K, hK⟩ : ∃ K : Nat, sure % (n + 1) = K := ⟨_, rfl⟩
        have hKn : K ≤ n := by rw [← hK]; have := Nat.mod_lt sure (show 0 < n + 1 by omega); omega
        have hK2 : ((sure : Int) % ((n : Int) + 1)) = (K : Int) := by rw [← hK]; simp
        have HKI : Hid ((K : Int) = (K : Int)) := rfl
        rw [hK2, decide_eq_true (show 0 < n by omega)]
        clear hK hK2
        obtain ⟨G, m4, rG1, sG⟩ : ∃ G, Mod w3 w0 (diskA p (jay g [] 0 []) * (jourA j p nj 0 * G)) ∧ ReadsRecs G B1 n rs ∧ Sub G S := ⟨S, m3, r1, inferInstance⟩
        clear m3 r1
        go_loopg [10, 11, 12, 13] (n + 1) (fun gk fv wv lv iv wr => ∃ (i Fr W L su : Nat) (sd : Dir), i ≤ n + 1 ∧ gk = n + 1 - i ∧ fv = .int .i64 (Fr : Int) ∧ wv = .int .i64 (W : Int) ∧ lv = .int .i64 (L : Int) ∧ iv = .int .i64 (i : Int) ∧ Hid (sureRel rs g K keep i Fr W L su sd) ∧ Mod wr w0 (diskA p (jay g (journal [] (rs.take i)) su sd) * (jourA j p nj (journal [] (rs.take i)).length * G)))
        case atStart => exact ⟨0, 0, K, keep, 0, [], Nat.zero_le _, rfl, rfl, rfl, rfl, rfl, .inl ⟨Nat.zero_le _, rfl, rfl, rfl, rfl, rfl⟩, m4⟩
        case round =>
          obtain ⟨i, Fr, W, L, su, sd, hin, hgk, rfl, rfl, rfl, rfl, HR, m5⟩ := hrel
          have hJi := HJ.out i
          by_cases hle : i ≤ n
          · have hlei : (i : Int) ≤ (n : Int) := by omega
            rcases Nat.lt_trichotomy i K with hiK | hiK | hiK
            · obtain ⟨hF, hW, hL, rfl, rfl⟩ := sure_ahead HR.out (by omega)
              have c4 : ((Fr : Int) != 0) = false := by rw [hF]; rfl
              have HF := Lib.hid hF
              have HW := Lib.hid hW
              have HL := Lib.hid hL
              clear hF hW hL
              have c1 : ((i : Int) == (K : Int)) = false := beq_eq_false_iff_ne.2 (by rw [HKI.out]; omega)
              have c2 : (i : Int) < (K : Int) := by rw [HKI.out]; omega
              have c3 : ¬ ((K : Int) < (i : Int)) := by rw [HKI.out]; omega
              have hlt : i < n := by omega
              have hki : (i : Int) < (n : Int) := by omega
              obtain ⟨b1, o1, hB1, hkl, B, cB, hxA, rB, hcB⟩ := reads_rec_all (Mod.sub G (m := m5)) rG1 hlt
              subst hB1
              have hsz1 : rs[i].length ≤ 4611686018427387904 := Hxs.out _ (List.getElem_mem hkl)
              have htk : Hid (rs.take (i + 1) = rs.take i ++ [rs[i]]) := List.take_succ_eq_append_getElem hkl
              have HJ2 : Hid ((journal [] (rs.take i ++ [rs[i]])).length ≤ 1000000) := by rw [← htk.out]; exact Nat.le_trans (HJ.out _) (by omega)
              have HxA := Lib.hid hxA
              clear hxA
              generalize rs[i] = x at *
              clear hkl
              go_wp2_with fail
              refine (jay_size p g (journal [] (rs.take i)) 0 [] wr w0 _ _ m5 inferInstance).mono ?_
              rintro e w6 ⟨rfl, m6⟩
              clear m5
              have hx : w6.cell? ⟨b1, o1 + i, none⟩ = _ := HxA.out ⟨w6, Mod.sub G (m := m6)⟩
              by_cases hx6 : 65536 < x.length
              · go_wp2_with fail
                refine (add_limit j p _ nj w6 w0 _ _ cB _ x.length m6 hx6).mono ?_
                rintro e w9 ⟨rfl, m9⟩
                have hx9 : w9.cell? ⟨b1, o1 + i, none⟩ = _ := HxA.out ⟨w9, Mod.sub G (m := m9)⟩
                have hx6i : (65536 : Int) < (x.length : Int) := by omega
                go_wp2_with fail
                go_ret
                exact ⟨rfl, Mod.sub S (m := Mod.sub G (m := m9))⟩
              · go_wp2_with fail
                refine (jay_addJ p g j (rs.take i) 0 [] w6 w0 _ B cB x m6 rB hcB (by omega) HJ2.out).mono ?_
                rintro e w9 ⟨rfl, m9⟩
                rw [← htk.out] at m9
                go_wp2_with fail
                go_roundg (n + 1 - (i + 1))
                case measure => omega
                case rel => exact ⟨i + 1, Fr, W, L, 0, [], by omega, rfl, rfl, rfl, rfl, by go_num, sure_a hiK HF.out HW.out HL.out, m9⟩
            · obtain ⟨hF, hW, hL, rfl, rfl⟩ := sure_ahead HR.out (by omega)
              have HF := Lib.hid hF
              have HW := Lib.hid hW
              have HL := Lib.hid hL
              clear hF hW hL
              have HiK := Lib.hid hiK
              have c1 : ((i : Int) == (K : Int)) = true := by rw [HKI.out, hiK]; simp
              have c2 : ¬ ((i : Int) < (K : Int)) := by rw [HKI.out]; omega
              have c3 : ¬ ((K : Int) < (i : Int)) := by rw [HKI.out]; omega
              clear hiK
              by_cases hlt : i < n
              · have hki : (i : Int) < (n : Int) := by omega
                obtain ⟨b1, o1, hB1, hkl, B, cB, hxA, rB, hcB⟩ := reads_rec_all (Mod.sub G (m := m5)) rG1 hlt
                subst hB1
                have hsz1 : rs[i].length ≤ 4611686018427387904 := Hxs.out _ (List.getElem_mem hkl)
                have htk : Hid (rs.take (i + 1) = rs.take i ++ [rs[i]]) := List.take_succ_eq_append_getElem hkl
                have HJ2 : Hid ((journal [] (rs.take i ++ [rs[i]])).length ≤ 1000000) := by rw [← htk.out]; exact Nat.le_trans (HJ.out _) (by omega)
                have HxA := Lib.hid hxA
                clear hxA
                generalize rs[i] = x at *
                clear hkl
                go_wp2_with fail
                refine (jay_size p g (journal [] (rs.take i)) 0 [] wr w0 _ _ m5 inferInstance).mono ?_
                rintro e w6 ⟨rfl, m6⟩
                clear m5

                go_wp2_with fail
                refine (jay_sync p g j (journal [] (rs.take i)) 0 [] w6 w0 _ _ m6).mono ?_
                rintro e w7 ⟨rfl, m7⟩
                clear m6
                go_wp2_with fail
                refine (jay_names p g (journal [] (rs.take i)) (journal [] (rs.take i)).length [] w7 w0 _ _ m7 inferInstance).mono ?_
                rintro e w8 ⟨rfl, m6⟩
                simp only [emp_sep] at m6
                clear m7
                have hx : w8.cell? ⟨b1, o1 + i, none⟩ = _ := HxA.out ⟨w8, Mod.sub G (m := m6)⟩
                by_cases hx6 : 65536 < x.length
                · go_wp2_with fail
                  refine (add_limit j p _ nj w8 w0 _ _ cB _ x.length m6 hx6).mono ?_
                  rintro e w9 ⟨rfl, m9⟩
                  have hx9 : w9.cell? ⟨b1, o1 + i, none⟩ = _ := HxA.out ⟨w9, Mod.sub G (m := m9)⟩
                  have hx6i : (65536 : Int) < (x.length : Int) := by omega
                  go_wp2_with fail
                  go_ret
                  exact ⟨rfl, Mod.sub S (m := Mod.sub G (m := m9))⟩
                · go_wp2_with fail
                  refine (jay_addJ p g j (rs.take i) (journal [] (rs.take i)).length [(nj, g)] w8 w0 _ B cB x m6 rB hcB (by omega) HJ2.out).mono ?_
                  rintro e w9 ⟨rfl, m9⟩
                  rw [← htk.out] at m9
                  go_wp2_with fail
                  go_roundg (n + 1 - (i + 1))
                  case measure => omega
                  case rel => exact ⟨i + 1, J rs i, W, L, J rs i, [(nj, g)], by omega, rfl, rfl, rfl, rfl, by go_num, sure_b HiK.out HW.out HL.out, m9⟩
              · have hki : ¬ ((i : Int) < (n : Int)) := by omega
                go_wp2_with fail
                refine (jay_size p g (journal [] (rs.take i)) 0 [] wr w0 _ _ m5 inferInstance).mono ?_
                rintro e w6 ⟨rfl, m6⟩
                clear m5

                go_wp2_with fail
                refine (jay_sync p g j (journal [] (rs.take i)) 0 [] w6 w0 _ _ m6).mono ?_
                rintro e w7 ⟨rfl, m7⟩
                clear m6
                go_wp2_with fail
                refine (jay_names p g (journal [] (rs.take i)) (journal [] (rs.take i)).length [] w7 w0 _ _ m7 inferInstance).mono ?_
                rintro e w8 ⟨rfl, m6⟩
                simp only [emp_sep] at m6
                clear m7
                have htk : rs.take (i + 1) = rs.take i := by rw [List.take_of_length_le (by rw [Hl.out]; omega), List.take_of_length_le (by rw [Hl.out]; omega)]
                go_wp2_with fail
                go_roundg (n + 1 - (i + 1))
                case measure => omega
                case rel => exact ⟨i + 1, J rs i, W, L, J rs i, [(nj, g)], by omega, rfl, rfl, rfl, rfl, by go_num, sure_b HiK.out HW.out HL.out, by rw [htk]; exact m6⟩
            · have Hrel := Lib.hid (sure_behind HR.out hiK)
              have hFb : Fr ≤ 100000 := by rw [Hrel.out.1]; exact HJ.out K
              have c1 : ((i : Int) == (K : Int)) = false := beq_eq_false_iff_ne.2 (by rw [HKI.out]; omega)
              have c2 : ¬ ((i : Int) < (K : Int)) := by rw [HKI.out]; omega
              have c3 : (K : Int) < (i : Int) := by rw [HKI.out]; omega
              by_cases hke : ((journal [] (rs.take i)).length : Int) - (Fr : Int) ≤ (keep : Int)
              · obtain ⟨L2, hL2⟩ : ∃ L2 : Nat, (keep : Int) - (((journal [] (rs.take i)).length : Int) - (Fr : Int)) = (L2 : Int) := ⟨((keep : Int) - (((journal [] (rs.take i)).length : Int) - (Fr : Int))).toNat, by omega⟩
                have HL2 := Lib.hid hL2
                have Hke := Lib.hid hke
                clear hL2
                by_cases hlt : i < n
                · have hki : (i : Int) < (n : Int) := by omega
                  obtain ⟨b1, o1, hB1, hkl, B, cB, hxA, rB, hcB⟩ := reads_rec_all (Mod.sub G (m := m5)) rG1 hlt
                  subst hB1
                  have hsz1 : rs[i].length ≤ 4611686018427387904 := Hxs.out _ (List.getElem_mem hkl)
                  have htk : Hid (rs.take (i + 1) = rs.take i ++ [rs[i]]) := List.take_succ_eq_append_getElem hkl
                  have HJ2 : Hid ((journal [] (rs.take i ++ [rs[i]])).length ≤ 1000000) := by rw [← htk.out]; exact Nat.le_trans (HJ.out _) (by omega)
                  have HxA := Lib.hid hxA
                  clear hxA
                  generalize rs[i] = x at *
                  clear hkl
                  go_wp2_with fail
                  refine (jay_size p g (journal [] (rs.take i)) su sd wr w0 _ _ m5 inferInstance).mono ?_
                  rintro e w6 ⟨rfl, m6⟩
                  clear m5
                  have hx : w6.cell? ⟨b1, o1 + i, none⟩ = _ := HxA.out ⟨w6, Mod.sub G (m := m6)⟩
                  by_cases hx6 : 65536 < x.length
                  · go_wp2_with fail
                    refine (add_limit j p _ nj w6 w0 _ _ cB _ x.length m6 hx6).mono ?_
                    rintro e w9 ⟨rfl, m9⟩
                    have hx9 : w9.cell? ⟨b1, o1 + i, none⟩ = _ := HxA.out ⟨w9, Mod.sub G (m := m9)⟩
                    have hx6i : (65536 : Int) < (x.length : Int) := by omega
                    go_wp2_with fail
                    go_ret
                    exact ⟨rfl, Mod.sub S (m := Mod.sub G (m := m9))⟩
                  · go_wp2_with fail
                    refine (jay_addJ p g j (rs.take i) su sd w6 w0 _ B cB x m6 rB hcB (by omega) HJ2.out).mono ?_
                    rintro e w9 ⟨rfl, m9⟩
                    rw [← htk.out] at m9
                    go_wp2_with fail
                    go_roundg (n + 1 - (i + 1))
                    case measure => omega
                    case rel => exact ⟨i + 1, Fr, i, L2, su, sd, by omega, rfl, rfl, rfl, (by rw [HL2.out]), by go_num, sure_c1 hiK Hrel.out Hke.out HL2.out, m9⟩
                · have hki : ¬ ((i : Int) < (n : Int)) := by omega
                  go_wp2_with fail
                  refine (jay_size p g (journal [] (rs.take i)) su sd wr w0 _ _ m5 inferInstance).mono ?_
                  rintro e w6 ⟨rfl, m6⟩
                  clear m5
                  have htk : rs.take (i + 1) = rs.take i := by rw [List.take_of_length_le (by rw [Hl.out]; omega), List.take_of_length_le (by rw [Hl.out]; omega)]
                  go_wp2_with fail
                  go_roundg (n + 1 - (i + 1))
                  case measure => omega
                  case rel => exact ⟨i + 1, Fr, i, L2, su, sd, by omega, rfl, rfl, rfl, (by rw [HL2.out]), by go_num, sure_c1 hiK Hrel.out Hke.out HL2.out, by rw [htk]; exact m6⟩
              · have Hke : Hid ((keep : Int) < ((journal [] (rs.take i)).length : Int) - (Fr : Int)) := by show _ < _; omega
                by_cases hlt : i < n
                · have hki : (i : Int) < (n : Int) := by omega
                  obtain ⟨b1, o1, hB1, hkl, B, cB, hxA, rB, hcB⟩ := reads_rec_all (Mod.sub G (m := m5)) rG1 hlt
                  subst hB1
                  have hsz1 : rs[i].length ≤ 4611686018427387904 := Hxs.out _ (List.getElem_mem hkl)
                  have htk : Hid (rs.take (i + 1) = rs.take i ++ [rs[i]]) := List.take_succ_eq_append_getElem hkl
                  have HJ2 : Hid ((journal [] (rs.take i ++ [rs[i]])).length ≤ 1000000) := by rw [← htk.out]; exact Nat.le_trans (HJ.out _) (by omega)
                  have HxA := Lib.hid hxA
                  clear hxA
                  generalize rs[i] = x at *
                  clear hkl
                  go_wp2_with fail
                  refine (jay_size p g (journal [] (rs.take i)) su sd wr w0 _ _ m5 inferInstance).mono ?_
                  rintro e w6 ⟨rfl, m6⟩
                  clear m5
                  have hx : w6.cell? ⟨b1, o1 + i, none⟩ = _ := HxA.out ⟨w6, Mod.sub G (m := m6)⟩
                  by_cases hx6 : 65536 < x.length
                  · go_wp2_with fail
                    refine (add_limit j p _ nj w6 w0 _ _ cB _ x.length m6 hx6).mono ?_
                    rintro e w9 ⟨rfl, m9⟩
                    have hx9 : w9.cell? ⟨b1, o1 + i, none⟩ = _ := HxA.out ⟨w9, Mod.sub G (m := m9)⟩
                    have hx6i : (65536 : Int) < (x.length : Int) := by omega
                    go_wp2_with fail
                    go_ret
                    exact ⟨rfl, Mod.sub S (m := Mod.sub G (m := m9))⟩
                  · go_wp2_with fail
                    refine (jay_addJ p g j (rs.take i) su sd w6 w0 _ B cB x m6 rB hcB (by omega) HJ2.out).mono ?_
                    rintro e w9 ⟨rfl, m9⟩
                    rw [← htk.out] at m9
                    go_wp2_with fail
                    go_roundg (n + 1 - (i + 1))
                    case measure => omega
                    case rel => exact ⟨i + 1, Fr, W, L, su, sd, by omega, rfl, rfl, rfl, rfl, by go_num, sure_c2 hiK Hrel.out Hke.out, m9⟩
                · have hki : ¬ ((i : Int) < (n : Int)) := by omega
                  go_wp2_with fail
                  refine (jay_size p g (journal [] (rs.take i)) su sd wr w0 _ _ m5 inferInstance).mono ?_
                  rintro e w6 ⟨rfl, m6⟩
                  clear m5
                  have htk : rs.take (i + 1) = rs.take i := by rw [List.take_of_length_le (by rw [Hl.out]; omega), List.take_of_length_le (by rw [Hl.out]; omega)]
                  go_wp2_with fail
                  go_roundg (n + 1 - (i + 1))
                  case measure => omega
                  case rel => exact ⟨i + 1, Fr, W, L, su, sd, by omega, rfl, rfl, rfl, rfl, by go_num, sure_c2 hiK Hrel.out Hke.out, by rw [htk]; exact m6⟩
          · have hi : i = n + 1 := by omega
            have HI := Lib.hid hi
            have hlei : ¬ ((i : Int) ≤ (n : Int)) := by omega
            have Hrel := Lib.hid (sure_behind HR.out (by omega))
            have htk : rs.take i = rs := List.take_of_length_le (by rw [Hl.out]; omega)
            rw [htk] at m5 hJi
            clear hi
            go_wp2_with fail
            obtain ⟨b, hb⟩ : ∃ b, journal [] rs = b := ⟨_, rfl⟩
            obtain ⟨hFr, rfl, rfl, hKW, hWi, hJW, hL, hnext⟩ := Hrel.out
            clear Hrel
            have hWn : W ≤ n := by have := HI.out; omega
            have hJb : ∀ v, v ≤ i → J rs v ≤ b.length := fun v hv => by
              have := journal_mono rs hv
              rw [htk, hb] at this
              exact this
            have hJK := hJb K (by omega)
            have hJWb : J rs W ≤ b.length := hJb _ (by have := HI.out; omega)
            have hnx : W < n → J rs (W + 1) ≤ b.length ∧ keep + J rs K < J rs (W + 1) := fun h => ⟨hJb _ (by have := HI.out; omega), hnext (by have := HI.out; omega)⟩
            rw [hb] at m5 hJi
            obtain ⟨E, hE⟩ : ∃ E, J rs K + min keep (b.length - J rs K) = E := ⟨_, rfl⟩
            have hEb : E ≤ b.length := by omega
            have hHV : readAll (b.take E) = (rs.take W, J rs W) := by
              rw [← hb]
              refine readAll_upto rs E W (by show J rs W ≤ _; omega) fun h => ?_
              obtain ⟨h1, h2⟩ := hnx (by have := Hl.out; omega)
              show _ < J rs (W + 1)
              omega
            have hfail := fail_single p (jay g b (J rs K) [(nj, g)]) wr w0 _ _ m5 inferInstance keep false (by omega) nj g rfl ⟨b.take E, E⟩ (by rw [keptOf_one]; simp only [kept, hE])
            refine hfail.mono ?_
            rintro e w6 ⟨p2, g2, rfl, m6⟩
            clear hfail m5
            obtain ⟨t, ht⟩ : ∃ t, b.take E = t := ⟨_, rfl⟩
            have htl : t.length = E := by rw [← ht, List.length_take]; omega
            rw [ht] at m6 hHV
            replace m6 : Mod w6 w0 (diskA p2 (jay g2 t E [(nj, g2)]) * (diskA p (jay g b (J rs K) [(nj, g)]) * (jourA j p nj b.length * G))) := m6
            have hcase : (W = n ∨ L = 0) ∧ E = J rs W ∨ (W ≠ n ∧ L ≠ 0) ∧ E ≠ J rs W := by
              by_cases h1 : W = n
              · have h2 : b.length ≤ J rs W := by rw [h1, ← hb, J, List.take_of_length_le (by rw [Hl.out]; omega)]; exact Nat.le_refl _
                exact .inl ⟨.inl h1, by omega⟩
              · obtain ⟨h2, h3⟩ := hnx (by omega)
                by_cases h4 : L = 0
                · exact .inl ⟨.inr h4, by omega⟩
                · exact .inr ⟨⟨h1, h4⟩, by omega⟩
            have Hcase := Lib.hid hcase
            have HHV := Lib.hid hHV
            have Htl := Lib.hid htl
            have hlW : (rs.take W).length = W := by rw [List.length_take, Hl.out]; omega
            have HlW := Lib.hid hlW
            have hWc : (W : Int) ≤ (c1 : Int) := by omega
            clear hb hJb hFr hKW hJW hL hnext hJK hJWb hnx hE hHV ht htl hcase hlW htk
            go_wp2_with fail
            have HO := jay_open p2 g2 t E [(nj, g2)] w6 w0 _ m6 (by rw [Htl.out]; omega)
            simp only [HHV.out] at HO
            refine HO.mono ?_
            rintro e w7 ⟨k2, A2, R, rfl, hrr, m7⟩
            clear HO m6
            dsimp only at hrr m7 ⊢
            rw [HlW.out] at hrr ⊢
            go_wp2_with fail
            refine (sameRecords_spec A2 B1 W W W c1 (rs.take W) (rs.take W) w7 w0 _ m7 (hrr.lift inferInstance) ((rG1.pre W hWn).lift inferInstance) (by omega) (by omega) (fun s hs => Hxs.out s (List.mem_of_mem_take hs)) (fun s hs => Hxs.out s (List.mem_of_mem_take hs))).mono ?_
            rw [decide_eq_true rfl]
            rintro e w8 ⟨rfl, m8⟩
            clear m7
            rcases Hcase.out with ⟨hL, hE⟩ | ⟨hL, hE⟩
            · rw [← hE, ← Htl.out] at m8
              have HE := Lib.hid hE
              have HLc := Lib.hid hL
              clear hE hL
              go_wp2_with fail
              refine (jay_add p2 g2 k2 t t.length [(nj, g2)] _ w0 _ (some ⟨w8.heap.size, 0, none⟩) 4 [109, 111, 114, 101] (front3 inferInstance) (reads_blk rfl rfl) (Nat.le_refl _) (by decide) (by have := writ_le t.length true [109, 111, 114, 101]; have h2 := Htl.out; simp only [List.length_cons, List.length_nil] at this; omega)).mono ?_
              rintro e w9 ⟨rfl, m9⟩
              have c5 : ((W : Int) == (n : Int)) = true ∨ ((W : Int) == (n : Int)) = false ∧ ((L : Int) == 0) = true := by
                by_cases h : W = n
                · left; rw [h]; simp
                · right; exact ⟨beq_eq_false_iff_ne.2 (by omega), by rw [HLc.out.resolve_left h]; rfl⟩
              rcases c5 with c5 | ⟨c5, c6⟩
              · go_wp2_with fail
                go_ret
                exact ⟨rfl, Mod.sub S (m := Mod.sub G (m := m9))⟩
              · go_wp2_with fail
                go_ret
                exact ⟨rfl, Mod.sub S (m := Mod.sub G (m := m9))⟩
            · have c5 : ((W : Int) == (n : Int)) = false := beq_eq_false_iff_ne.2 (by omega)
              have c6 : ((L : Int) == 0) = false := beq_eq_false_iff_ne.2 (by omega)
              have HE := Lib.hid hE
              clear hE hL
              go_wp2_with fail
              refine (jay_add_state p2 g2 k2 t E [(nj, g2)] _ w0 _ (J rs W) (some ⟨w8.heap.size, 0, none⟩) 4 4 (front3 inferInstance) (by omega) (by rw [Htl.out]; exact HE.out)).mono ?_
              rintro e w9 ⟨rfl, m9⟩
              go_wp2_with fail
              go_ret
              exact ⟨rfl, Mod.sub S (m := Mod.sub G (m := m9))⟩
      · have hJ : ∀ i, (journal [] (rs.take i)).length ≤ 100000 := fun i => by
          have := journal_le rs [] i
          rw [sum_sizes] at this
          have h1 := Hsz.out
          have h2 := Hl.out
          simp only [List.length_nil] at this
          omega
        have HJ := Lib.hid hJ
        clear hJ m m1 m2 HC
        obtain ⟨K, hK⟩ : ∃ K : Nat, K = 0 := ⟨0, rfl⟩
        have hKn : K ≤ n := by omega
        have HKI : Hid ((0 : Int) = (K : Int)) := by show _ = _; rw [hK]; rfl
        have hn0 : n = 0 := by omega
        have HN0 := Lib.hid hn0
        rw [decide_eq_false (show ¬ 0 < n by omega)]
        clear hK hn0
        obtain ⟨G, m4, rG1, sG⟩ : ∃ G, Mod w3 w0 (diskA p (jay g [] 0 []) * (jourA j p nj 0 * G)) ∧ ReadsRecs G B1 n rs ∧ Sub G S := ⟨S, m3, r1, inferInstance⟩
        clear m3 r1
        go_loopg [10, 11, 12, 13] (n + 1) (fun gk fv wv lv iv wr => ∃ (i Fr W L su : Nat) (sd : Dir), i ≤ n + 1 ∧ gk = n + 1 - i ∧ fv = .int .i64 (Fr : Int) ∧ wv = .int .i64 (W : Int) ∧ lv = .int .i64 (L : Int) ∧ iv = .int .i64 (i : Int) ∧ Hid (sureRel rs g K keep i Fr W L su sd) ∧ Mod wr w0 (diskA p (jay g (journal [] (rs.take i)) su sd) * (jourA j p nj (journal [] (rs.take i)).length * G)))
        case atStart => exact ⟨0, 0, K, keep, 0, [], Nat.zero_le _, rfl, rfl, (by rw [HKI.out]), rfl, rfl, .inl ⟨Nat.zero_le _, rfl, rfl, rfl, rfl, rfl⟩, m4⟩
        case round =>
          obtain ⟨i, Fr, W, L, su, sd, hin, hgk, rfl, rfl, rfl, rfl, HR, m5⟩ := hrel
          have hJi := HJ.out i
          by_cases hle : i ≤ n
          · have hlei : (i : Int) ≤ (n : Int) := by omega
            rcases Nat.lt_trichotomy i K with hiK | hiK | hiK
            · obtain ⟨hF, hW, hL, rfl, rfl⟩ := sure_ahead HR.out (by omega)
              have c4 : ((Fr : Int) != 0) = false := by rw [hF]; rfl
              have HF := Lib.hid hF
              have HW := Lib.hid hW
              have HL := Lib.hid hL
              clear hF hW hL
              have c1 : ((i : Int) == (0 : Int)) = false := beq_eq_false_iff_ne.2 (by rw [HKI.out]; omega)
              have c2 : (i : Int) < (0 : Int) := by rw [HKI.out]; omega
              have c3 : ¬ ((0 : Int) < (i : Int)) := by rw [HKI.out]; omega
              have hlt : i < n := by omega
              have := HN0.out; omega
            · obtain ⟨hF, hW, hL, rfl, rfl⟩ := sure_ahead HR.out (by omega)
              have HF := Lib.hid hF
              have HW := Lib.hid hW
              have HL := Lib.hid hL
              clear hF hW hL
              have HiK := Lib.hid hiK
              have c1 : ((i : Int) == (0 : Int)) = true := by rw [HKI.out, hiK]; simp
              have c2 : ¬ ((i : Int) < (0 : Int)) := by rw [HKI.out]; omega
              have c3 : ¬ ((0 : Int) < (i : Int)) := by rw [HKI.out]; omega
              clear hiK
              by_cases hlt : i < n
              · have := HN0.out; omega
              · have hki : ¬ ((i : Int) < (n : Int)) := by omega
                go_wp2_with fail
                refine (jay_size p g (journal [] (rs.take i)) 0 [] wr w0 _ _ m5 inferInstance).mono ?_
                rintro e w6 ⟨rfl, m6⟩
                clear m5

                go_wp2_with fail
                refine (jay_sync p g j (journal [] (rs.take i)) 0 [] w6 w0 _ _ m6).mono ?_
                rintro e w7 ⟨rfl, m7⟩
                clear m6
                go_wp2_with fail
                refine (jay_names p g (journal [] (rs.take i)) (journal [] (rs.take i)).length [] w7 w0 _ _ m7 inferInstance).mono ?_
                rintro e w8 ⟨rfl, m6⟩
                simp only [emp_sep] at m6
                clear m7
                have htk : rs.take (i + 1) = rs.take i := by rw [List.take_of_length_le (by rw [Hl.out]; omega), List.take_of_length_le (by rw [Hl.out]; omega)]
                go_wp2_with fail
                go_roundg (n + 1 - (i + 1))
                case measure => omega
                case rel => exact ⟨i + 1, J rs i, W, L, J rs i, [(nj, g)], by omega, rfl, rfl, rfl, rfl, by go_num, sure_b HiK.out HW.out HL.out, by rw [htk]; exact m6⟩
            · have Hrel := Lib.hid (sure_behind HR.out hiK)
              have hFb : Fr ≤ 100000 := by rw [Hrel.out.1]; exact HJ.out K
              have c1 : ((i : Int) == (0 : Int)) = false := beq_eq_false_iff_ne.2 (by rw [HKI.out]; omega)
              have c2 : ¬ ((i : Int) < (0 : Int)) := by rw [HKI.out]; omega
              have c3 : (0 : Int) < (i : Int) := by rw [HKI.out]; omega
              by_cases hke : ((journal [] (rs.take i)).length : Int) - (Fr : Int) ≤ (keep : Int)
              · obtain ⟨L2, hL2⟩ : ∃ L2 : Nat, (keep : Int) - (((journal [] (rs.take i)).length : Int) - (Fr : Int)) = (L2 : Int) := ⟨((keep : Int) - (((journal [] (rs.take i)).length : Int) - (Fr : Int))).toNat, by omega⟩
                have HL2 := Lib.hid hL2
                have Hke := Lib.hid hke
                clear hL2
                by_cases hlt : i < n
                · have := HN0.out; omega
                · have := HN0.out; omega
              · have Hke : Hid ((keep : Int) < ((journal [] (rs.take i)).length : Int) - (Fr : Int)) := by show _ < _; omega
                by_cases hlt : i < n
                · have := HN0.out; omega
                · have := HN0.out; omega
          · have hi : i = n + 1 := by omega
            have HI := Lib.hid hi
            have hlei : ¬ ((i : Int) ≤ (n : Int)) := by omega
            have Hrel := Lib.hid (sure_behind HR.out (by omega))
            have htk : rs.take i = rs := List.take_of_length_le (by rw [Hl.out]; omega)
            rw [htk] at m5 hJi
            clear hi
            go_wp2_with fail
            obtain ⟨b, hb⟩ : ∃ b, journal [] rs = b := ⟨_, rfl⟩
            obtain ⟨hFr, rfl, rfl, hKW, hWi, hJW, hL, hnext⟩ := Hrel.out
            clear Hrel
            have hWn : W ≤ n := by have := HI.out; omega
            have hJb : ∀ v, v ≤ i → J rs v ≤ b.length := fun v hv => by
              have := journal_mono rs hv
              rw [htk, hb] at this
              exact this
            have hJK := hJb K (by omega)
            have hJWb : J rs W ≤ b.length := hJb _ (by have := HI.out; omega)
            have hnx : W < n → J rs (W + 1) ≤ b.length ∧ keep + J rs K < J rs (W + 1) := fun h => ⟨hJb _ (by have := HI.out; omega), hnext (by have := HI.out; omega)⟩
            rw [hb] at m5 hJi
            obtain ⟨E, hE⟩ : ∃ E, J rs K + min keep (b.length - J rs K) = E := ⟨_, rfl⟩
            have hEb : E ≤ b.length := by omega
            have hHV : readAll (b.take E) = (rs.take W, J rs W) := by
              rw [← hb]
              refine readAll_upto rs E W (by show J rs W ≤ _; omega) fun h => ?_
              obtain ⟨h1, h2⟩ := hnx (by have := Hl.out; omega)
              show _ < J rs (W + 1)
              omega
            have hfail := fail_single p (jay g b (J rs K) [(nj, g)]) wr w0 _ _ m5 inferInstance keep false (by omega) nj g rfl ⟨b.take E, E⟩ (by rw [keptOf_one]; simp only [kept, hE])
            refine hfail.mono ?_
            rintro e w6 ⟨p2, g2, rfl, m6⟩
            clear hfail m5
            obtain ⟨t, ht⟩ : ∃ t, b.take E = t := ⟨_, rfl⟩
            have htl : t.length = E := by rw [← ht, List.length_take]; omega
            rw [ht] at m6 hHV
            replace m6 : Mod w6 w0 (diskA p2 (jay g2 t E [(nj, g2)]) * (diskA p (jay g b (J rs K) [(nj, g)]) * (jourA j p nj b.length * G))) := m6
            have hcase : (W = n ∨ L = 0) ∧ E = J rs W ∨ (W ≠ n ∧ L ≠ 0) ∧ E ≠ J rs W := by
              by_cases h1 : W = n
              · have h2 : b.length ≤ J rs W := by rw [h1, ← hb, J, List.take_of_length_le (by rw [Hl.out]; omega)]; exact Nat.le_refl _
                exact .inl ⟨.inl h1, by omega⟩
              · obtain ⟨h2, h3⟩ := hnx (by omega)
                by_cases h4 : L = 0
                · exact .inl ⟨.inr h4, by omega⟩
                · exact .inr ⟨⟨h1, h4⟩, by omega⟩
            have Hcase := Lib.hid hcase
            have HHV := Lib.hid hHV
            have Htl := Lib.hid htl
            have hlW : (rs.take W).length = W := by rw [List.length_take, Hl.out]; omega
            have HlW := Lib.hid hlW
            have hWc : (W : Int) ≤ (c1 : Int) := by omega
            clear hb hJb hFr hKW hJW hL hnext hJK hJWb hnx hE hHV ht htl hcase hlW htk
            go_wp2_with fail
            have HO := jay_open p2 g2 t E [(nj, g2)] w6 w0 _ m6 (by rw [Htl.out]; omega)
            simp only [HHV.out] at HO
            refine HO.mono ?_
            rintro e w7 ⟨k2, A2, R, rfl, hrr, m7⟩
            clear HO m6
            dsimp only at hrr m7 ⊢
            rw [HlW.out] at hrr ⊢
            go_wp2_with fail
            refine (sameRecords_spec A2 B1 W W W c1 (rs.take W) (rs.take W) w7 w0 _ m7 (hrr.lift inferInstance) ((rG1.pre W hWn).lift inferInstance) (by omega) (by omega) (fun s hs => Hxs.out s (List.mem_of_mem_take hs)) (fun s hs => Hxs.out s (List.mem_of_mem_take hs))).mono ?_
            rw [decide_eq_true rfl]
            rintro e w8 ⟨rfl, m8⟩
            clear m7
            rcases Hcase.out with ⟨hL, hE⟩ | ⟨hL, hE⟩
            · rw [← hE, ← Htl.out] at m8
              have HE := Lib.hid hE
              have HLc := Lib.hid hL
              clear hE hL
              go_wp2_with fail
              refine (jay_add p2 g2 k2 t t.length [(nj, g2)] _ w0 _ (some ⟨w8.heap.size, 0, none⟩) 4 [109, 111, 114, 101] (front3 inferInstance) (reads_blk rfl rfl) (Nat.le_refl _) (by decide) (by have := writ_le t.length true [109, 111, 114, 101]; have h2 := Htl.out; simp only [List.length_cons, List.length_nil] at this; omega)).mono ?_
              rintro e w9 ⟨rfl, m9⟩
              have c5 : ((W : Int) == (n : Int)) = true ∨ ((W : Int) == (n : Int)) = false ∧ ((L : Int) == 0) = true := by
                by_cases h : W = n
                · left; rw [h]; simp
                · right; exact ⟨beq_eq_false_iff_ne.2 (by omega), by rw [HLc.out.resolve_left h]; rfl⟩
              rcases c5 with c5 | ⟨c5, c6⟩
              · go_wp2_with fail
                go_ret
                exact ⟨rfl, Mod.sub S (m := Mod.sub G (m := m9))⟩
              · go_wp2_with fail
                go_ret
                exact ⟨rfl, Mod.sub S (m := Mod.sub G (m := m9))⟩
            · have c5 : ((W : Int) == (n : Int)) = false := beq_eq_false_iff_ne.2 (by omega)
              have c6 : ((L : Int) == 0) = false := beq_eq_false_iff_ne.2 (by omega)
              have HE := Lib.hid hE
              clear hE hL
              go_wp2_with fail
              refine (jay_add_state p2 g2 k2 t E [(nj, g2)] _ w0 _ (J rs W) (some ⟨w8.heap.size, 0, none⟩) 4 4 (front3 inferInstance) (by omega) (by rw [Htl.out]; exact HE.out)).mono ?_
              rintro e w9 ⟨rfl, m9⟩
              go_wp2_with fail
              go_ret
              exact ⟨rfl, Mod.sub S (m := Mod.sub G (m := m9))⟩
theorem journalsSure_walk (B1 : Option Addr) (n c1 : Nat) (k k2 : Int) (w w0 : World) (S : Asn) [m : Mod w w0 S] (hk : (Lit.int .u8 k).wf = true) (hk2 : (Lit.int .u16 k2).wf = true)
    (hs : ∃ rs, ReadsRecs S B1 n rs ∧ n ≤ c1 ∧ n ≤ reachBytes ∧ ∀ s ∈ rs, s.length ≤ reachBytes) :
    Calls Tryd.prog 7 #[.slice B1 n c1, .int .u8 k, .int .u16 k2] w fun e w' => e = .returned (.bool true) ∧ Mod w' w0 S := by
  obtain ⟨sure, rfl, hsure⟩ := wf_u8 hk
  obtain ⟨keep, rfl, hkeep⟩ := wf_u16 hk2
  obtain ⟨rs, hr, h1, h2, h3⟩ := hs
  unfold reachBytes at h2 h3
  exact journalsSure_run B1 n c1 rs sure keep w w0 S m hr h1 (by omega) (fun s hs => Nat.le_trans (h3 s hs) (by omega)) hsure hkeep
end Go.Proofs.YtmpgnnjhgjfgaaaDoor
