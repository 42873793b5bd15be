/- The walk of JournalsBack: it returns true and changes nothing that was there; no condition. -/
import Derived.Test.YtmpgnnjhgjfgaaaDoorAlive6
import Derived.Test.YtmpgnnjhgjfgaaaDoorArgRecs
import Derived.Deep.LoopGhost
namespace Go.Proofs.YtmpgnnjhgjfgaaaDoor
open Go.RowKit Go.Sl
attribute [local go_sem] cell_of frozen_of zero_names conv_const conv_bs conv_nil make_bytes
theorem sum_sizes : ∀ l : List (List UInt8), (l.map List.length).sum = sizesR l
  | [] => rfl
  | r :: l => by rw [List.map_cons, List.sum_cons, sum_sizes l]; rfl
set_option maxRecDepth 4000 in
set_option maxHeartbeats 4000000 in
theorem journalsBack_run (B1 : Option Addr) (n c1 : Nat) (rs : List (List UInt8)) (B2 : Option Addr) (n2 c2 : Nat) (bs : List Bool) (w w0 : World) (S : Asn) (m : Mod w w0 S) (r1 : ReadsRecs S B1 n rs) (r2 : Reads S B2 n2 (bools bs)) (hl2 : bs.length = n2) (hc : n ≤ c1) (hn : n ≤ 4611686018427387903) (hn2 : n2 ≤ 9223372036854775807) (hxs : ∀ s ∈ rs, s.length ≤ 4611686018427387904) :
    Calls Tryd.prog 3 #[.slice B1 n c1, .slice B2 n2 c2] w fun e w' => e = .returned (.bool true) ∧ Mod w' w0 S := by
  have hl := r1.len
  obtain ⟨t1, t2⟩ := recsSize_gt rs n
  have HT := Lib.hid t2
  have Hxs := Lib.hid hxs
  have Hl2 := Lib.hid hl2
  have Hl := Lib.hid hl
  clear t2 hxs hl2 hl
  by_cases hlen : 60 < n
  · go_enter Tryd.func3, Tryd.ntmps3
    go_wp2_with first
      | (go_at_call 10; refine (alive6_spec _ w0 _ (by assumption)).mono ?_; rintro e w1 ⟨rfl, _m1⟩; try clear m)
    go_ret
    exact ⟨rfl, _m1⟩
  · have HC := Lib.hid (fun (u : World) (mu : Mod u w0 S) => recordsSize_spec B1 n c1 rs u w0 S mu r1 (by omega) Hxs.out)
    obtain ⟨sz, hsz⟩ : ∃ sz, recsSize n rs = sz := ⟨_, rfl⟩
    rw [hsz] at HC HT
    clear hsz
    by_cases hst : 70000 < sz ∨ 100 < n2
    · go_enter Tryd.func3, Tryd.ntmps3
      go_wp2_with fail
      refine (alive6_spec _ w0 _ m).mono ?_
      rintro e w1 ⟨rfl, m1⟩
      go_wp2_with fail
      refine (HC.out w1 m1).mono ?_
      rintro e w2 ⟨rfl, m2⟩
      by_cases h7 : 70000 < sz
      · go_wp2_with fail
        refine (alive6_spec _ w0 _ m2).mono ?_
        rintro e w3 ⟨rfl, m3⟩
        go_wp2_with fail
        go_ret
        exact ⟨rfl, m3⟩
      · have h8 : 100 < n2 := hst.resolve_left h7
        clear hst
        go_wp2_with fail
        refine (alive6_spec _ w0 _ m2).mono ?_
        rintro e w3 ⟨rfl, m3⟩
        go_wp2_with fail
        go_ret
        exact ⟨rfl, m3⟩
    · have h7 : sz ≤ 70000 := by omega
      have h8 : n2 ≤ 100 := by omega
      have Hsz := Lib.hid (HT.out (by omega))
      clear hst HT
      go_enter Tryd.func3, Tryd.ntmps3
      go_wp2_with fail
      refine (alive6_spec _ w0 _ m).mono ?_
      rintro e w1 ⟨rfl, m1⟩
      go_wp2_with fail
      refine (HC.out w1 m1).mono ?_
      rintro e w2 ⟨rfl, m2⟩
      go_wp2_with fail
      refine (opened6_spec w2 w0 S m2).mono ?_
      rintro e w3 ⟨p, j, g, rfl, m3⟩
      go_wp2_with fail
      obtain ⟨G0, m4, rG1, rG2, sG⟩ : ∃ G0, Mod w3 w0 (diskA p (jay g [] 0 []) * (jourA j p nj 0 * G0)) ∧ ReadsRecs G0 B1 n rs ∧ Reads G0 B2 n2 (bools bs) ∧ Sub G0 S := ⟨S, m3, r1, r2, inferInstance⟩
      have hJ : ∀ i, (journal [] (rs.take i)).length ≤ 1000000 := fun i => by
        have := journal_le rs [] i
        rw [sum_sizes] at this
        have h1 := Hsz.out
        have h2 := Hl.out
        simp only [List.length_nil] at this
        omega
      have HJ := Lib.hid hJ
      clear hJ m m1 m2 m3 HC r1 r2
      go_loopg [6, 7] n (fun gk jv iv wr => ∃ (k jj : Nat) (G : Asn), k ≤ n ∧ gk = n - k ∧ iv = .int .i64 (k : Int) ∧ jv = ptr jj ∧ ReadsRecs G B1 n rs ∧ Reads G B2 n2 (bools bs) ∧ Sub G S ∧ Mod wr w0 (diskA p (jay g (journal [] (rs.take k)) 0 []) * (jourA jj p nj (journal [] (rs.take k)).length * G)))
      case atStart => exact ⟨0, j, G0, Nat.zero_le _, rfl, rfl, rfl, rG1, rG2, sG, m4⟩
      case round =>
        obtain ⟨k, jj, G, hkn, hgk, rfl, rfl, rG1, rG2, sG, m5⟩ := hrel
        by_cases hlt : k < n
        · obtain ⟨b1, o1, hB1, hkl, B, cB, hxA, rB, hcB⟩ := reads_rec_all (Mod.sub G (m := m5)) rG1 hlt
          subst hB1
          have hki : (k : Int) < (n : Int) := by omega
          have hsz1 : rs[k].length ≤ 4611686018427387904 := Hxs.out _ (List.getElem_mem hkl)
          have htk : Hid (rs.take (k + 1) = rs.take k ++ [rs[k]]) := List.take_succ_eq_append_getElem hkl
          have Hxs2 : Hid (∀ s ∈ rs.take k, s.length ≤ 4611686018427387904) := fun s hs => Hxs.out s (List.mem_of_mem_take hs)
          have HJ2 : Hid ((journal [] (rs.take k ++ [rs[k]])).length ≤ 1000000) := by rw [← htk.out]; exact HJ.out _
          have HxA := Lib.hid hxA
          clear hxA
          generalize rs[k] = x at *
          clear hkl
          by_cases hop : ∃ h : k < n2, bs[k]'(by rw [Hl2.out]; exact h) = true
          · obtain ⟨hk2, hbk⟩ := hop
            obtain ⟨b2, o2, hB2, hc2⟩ := reads_bool m5 (reads_lift inferInstance rG2) (by omega)
            subst hB2
            have hy := hc2 k (by rw [Hl2.out]; exact hk2)
            rw [hbk] at hy
            have hk2i : (k : Int) < (n2 : Int) := by omega
            clear hc2 hbk
            go_wp2_with fail
            have HO := jay_open p g (journal [] (rs.take k)) 0 [] wr w0 _ m5 (by have := HJ.out k; omega)
            rw [readAll_journal] at HO
            refine HO.mono ?_
            rintro e w5 ⟨k2, A2, R, rfl, hrr, m6⟩
            clear HO m5
            dsimp only at hrr m6 ⊢
            have hlk : Hid ((rs.take k).length = k) := by show _ = _; rw [List.length_take, Hl.out]; omega
            rw [hlk.out] at hrr ⊢
            go_wp2_with fail
            refine (sameRecords_spec A2 (some ⟨b1, o1, none⟩) k k k c1 (rs.take k) (rs.take k) w5 w0 _ m6 (hrr.lift inferInstance) ((rG1.pre k hkn).lift inferInstance) (by omega) (by omega) Hxs2.out Hxs2.out).mono ?_
            rw [decide_eq_true rfl]
            rintro e w7 ⟨rfl, m7⟩
            clear m6
            have hx : w7.cell? ⟨b1, o1 + k, none⟩ = _ := HxA.out ⟨w7, Mod.sub G (m := m7)⟩
            by_cases hx6 : 65536 < x.length
            · go_wp2_with fail
              refine (add_limit k2 p _ nj _ w0 _ _ cB _ x.length m7 hx6).mono ?_
              rintro e w8 ⟨rfl, m8⟩
              have hx8 : w8.cell? ⟨b1, o1 + k, none⟩ = _ := HxA.out ⟨w8, Mod.sub G (m := m8)⟩
              have hx6i : (65536 : Int) < (x.length : Int) := by omega
              go_wp2_with fail
              go_ret
              exact ⟨rfl, Mod.sub S (m := m8)⟩
            · go_wp2_with fail
              refine (jay_addJ p g k2 (rs.take k) 0 [] _ w0 (R * (jourA jj p nj (journal [] (rs.take k)).length * G)) B cB x m7 inferInstance hcB (by omega) HJ2.out).mono ?_
              rintro e w8 ⟨rfl, m8⟩
              rw [← htk.out] at m8
              go_wp2_with fail
              go_roundg (n - (k + 1))
              case measure => omega
              case rel => exact ⟨k + 1, k2, (R * (jourA jj p nj (journal [] (rs.take k)).length * G)), by omega, rfl, by go_num, rfl, (rG1.lift inferInstance), (reads_lift inferInstance rG2), inferInstance, m8⟩
          · have hx : wr.cell? ⟨b1, o1 + k, none⟩ = _ := HxA.out ⟨wr, Mod.sub G (m := m5)⟩
            have hopn : ¬ (k < n2 ∧ True) ∨ ∃ b2 o2, B2 = some ⟨b2, o2, none⟩ ∧ wr.cell? ⟨b2, o2 + k, none⟩ = some (.bool false) ∧ k < n2 := by
              by_cases hk2 : k < n2
              · right
                obtain ⟨b2, o2, hB2, hc2⟩ := reads_bool m5 (reads_lift inferInstance rG2) (by omega)
                refine ⟨b2, o2, hB2, ?_, hk2⟩
                rw [hc2 k (by rw [Hl2.out]; exact hk2)]
                have : bs[k]'(by rw [Hl2.out]; exact hk2) ≠ true := fun h => hop ⟨hk2, h⟩
                simp [this]
              · left; exact fun h => hk2 h.1
            clear hop
            rcases hopn with hk2 | ⟨b2, o2, hB2, hy, hk2⟩
            · have hk2i : ¬ ((k : Int) < (n2 : Int)) := fun h => hk2 ⟨by omega, trivial⟩
              by_cases hx6 : 65536 < x.length
              · go_wp2_with fail
                refine (add_limit jj p _ nj _ w0 _ _ cB _ x.length m5 hx6).mono ?_
                rintro e w8 ⟨rfl, m8⟩
                have hx8 : w8.cell? ⟨b1, o1 + k, none⟩ = _ := HxA.out ⟨w8, Mod.sub G (m := m8)⟩
                have hx6i : (65536 : Int) < (x.length : Int) := by omega
                go_wp2_with fail
                go_ret
                exact ⟨rfl, Mod.sub S (m := m8)⟩
              · go_wp2_with fail
                refine (jay_addJ p g jj (rs.take k) 0 [] _ w0 G B cB x m5 rB hcB (by omega) HJ2.out).mono ?_
                rintro e w8 ⟨rfl, m8⟩
                rw [← htk.out] at m8
                go_wp2_with fail
                go_roundg (n - (k + 1))
                case measure => omega
                case rel => exact ⟨k + 1, jj, G, by omega, rfl, by go_num, rfl, rG1, rG2, sG, m8⟩
            · subst hB2
              have hk2i : (k : Int) < (n2 : Int) := by omega
              by_cases hx6 : 65536 < x.length
              · go_wp2_with fail
                refine (add_limit jj p _ nj _ w0 _ _ cB _ x.length m5 hx6).mono ?_
                rintro e w8 ⟨rfl, m8⟩
                have hx8 : w8.cell? ⟨b1, o1 + k, none⟩ = _ := HxA.out ⟨w8, Mod.sub G (m := m8)⟩
                have hx6i : (65536 : Int) < (x.length : Int) := by omega
                go_wp2_with fail
                go_ret
                exact ⟨rfl, Mod.sub S (m := m8)⟩
              · go_wp2_with fail
                refine (jay_addJ p g jj (rs.take k) 0 [] _ w0 G B cB x m5 rB hcB (by omega) HJ2.out).mono ?_
                rintro e w8 ⟨rfl, m8⟩
                rw [← htk.out] at m8
                go_wp2_with fail
                go_roundg (n - (k + 1))
                case measure => omega
                case rel => exact ⟨k + 1, jj, G, by omega, rfl, by go_num, rfl, rG1, rG2, sG, m8⟩
        · have hkn2 : k = n := by omega
          subst hkn2
          have htk : rs.take k = rs := List.take_of_length_le (by rw [Hl.out]; omega)
          rw [htk] at m5
          have hj := HJ.out k
          rw [htk] at hj
          go_wp2_with fail
          have HO := jay_open p g (journal [] rs) 0 [] wr w0 _ m5 (by omega)
          rw [readAll_journal] at HO
          refine HO.mono ?_
          rintro e w5 ⟨k2, A2, R, rfl, hrr, m6⟩
          clear HO m5
          dsimp only at hrr m6 ⊢
          rw [Hl.out] at hrr ⊢
          go_wp2_with fail
          refine (sameRecords_spec A2 B1 k k k c1 rs rs w5 w0 _ m6 (hrr.lift inferInstance) (rG1.lift inferInstance) (by omega) (by omega) Hxs.out Hxs.out).mono ?_
          rw [decide_eq_true rfl]
          rintro e w7 ⟨rfl, m7⟩
          go_wp2_with fail
          go_ret
          exact ⟨rfl, Mod.sub S (m := Mod.sub G (m := m7))⟩
theorem journalsBack_walk (B1 : Option Addr) (n c1 : Nat) (B2 : Option Addr) (n2 c2 : Nat) (w w0 : World) (S : Asn) [m : Mod w w0 S]
    (hs : (∃ rs, ReadsRecs S B1 n rs ∧ n ≤ c1 ∧ n ≤ reachBytes ∧ ∀ s ∈ rs, s.length ≤ reachBytes) ∧ ∃ bs, bs.length = n2 ∧ Reads S B2 n2 (bools bs) ∧ n2 ≤ c2 ∧ c2 ≤ maxLen) :
    Calls Tryd.prog 3 #[.slice B1 n c1, .slice B2 n2 c2] w fun e w' => e = .returned (.bool true) ∧ Mod w' w0 S := by
  obtain ⟨⟨rs, hr, h1, h2, h3⟩, bs, hl2, hr2, h4, h5⟩ := hs
  unfold reachBytes at h2 h3
  unfold maxLen at h5
  exact journalsBack_run B1 n c1 rs B2 n2 c2 bs w w0 S m hr hr2 hl2 h1 (by omega) (by omega) (fun s hs => Nat.le_trans (h3 s hs) (by omega))
end Go.Proofs.YtmpgnnjhgjfgaaaDoor
