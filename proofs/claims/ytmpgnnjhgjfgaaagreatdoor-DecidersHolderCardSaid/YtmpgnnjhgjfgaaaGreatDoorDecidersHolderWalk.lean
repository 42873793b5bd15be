/- The walk of DecidersHolder: it returns true and changes nothing that was there; no condition. -/
import Derived.Test.YtmpgnnjhgjfgaaaGreatDoorDecSG
import Derived.Test.YtmpgnnjhgjfgaaaGreatDoorDecMG
import Derived.Deep.QuietTactic
import Derived.BigQuiet
namespace Go.Proofs.YtmpgnnjhgjfgaaaGreatDoor
open Go.RowKit Go.Sl
attribute [local go_sem] cell_of cellAt_of frozen_of zero_names MsgV.at0 MsgV.at1 MsgV.at2 MsgV.at3 MsgV.at4 MsgV.at5 MsgV.at6 MsgV.at7 MsgV.at8 MsgV.at9
theorem n8_at {l : List Nat} {i : Nat} (h : i < l.length) : (n8s l)[i]? = some (vu8 (l.getD i 0)) := by rw [List.getD_eq_getElem?_getD]; simp [h]
theorem holder_led {x p : Nat} {first : List Nat} {sl : Bool} {h st : Nat} {s : Dp} (hL : Led first sl h st s) (w w0 : World) (F : Asn) (m : DecSt x p s F w0 w) : Calls Tryz.prog 12 #[ptr x] w fun e w' => e = .returned (.tuple #[vu8 h, vu32 st]) ∧ DecSt x p s F w0 w' := by
  have := holder_st x p s w w0 F m
  rw [hL.holder, hL.stamp] at this
  exact this
theorem want_led {x p : Nat} {first : List Nat} {h st : Nat} {s : Dp} (hL : Led first false h st s) (hl : s.kn.lost = false) (hm : s.kn.most < 4294967295) (h0 : 0 < first.length) (w w0 : World) (F : Asn) (m : DecSt x p s F w0 w) : Calls Tryz.prog 9 #[ptr x, .slice none 0 0] w fun e w' => ∃ B n, e = .returned (.tuple #[.slice B n n, .int .i64 0]) ∧ DecSt x p (s.want []) F w0 w' := by
  refine (want_st x p s hL.ok hl hm none 0 0 [] w w0 F m reads_nil (Nat.le_refl _) (by decide)).mono ?_
  rintro e w' (⟨h1, _⟩ | ⟨_, B, cB, h2, h3⟩)
  · rw [hL.chain.nodes] at h1; exact absurd (joinOk_nil h0) h1
  · exact ⟨B, _, h2, h3.drop⟩
theorem as9_cells (y : MsgV) : y.cells.setIfInBounds 0 (.int .u8 9) = y.as9.cells := rfl
theorem ready_parts (z : MsgV) (q : Nat) : ((z.epoch = 1 ∧ z.from_ = q ∧ z.num ≠ 0) ∧ ((z.epoch : Int) == 1) = true ∧ ((z.from_ : Int) == (q : Int)) = true ∧ ((z.num : Int) != 0) = true) ∨
    (¬ (z.epoch = 1 ∧ z.from_ = q ∧ z.num ≠ 0) ∧ (((z.epoch : Int) == 1) = false ∨ (((z.epoch : Int) == 1) = true ∧ ((z.from_ : Int) == (q : Int)) = false) ∨ (((z.epoch : Int) == 1) = true ∧ ((z.from_ : Int) == (q : Int)) = true ∧ ((z.num : Int) != 0) = false))) := by
  by_cases h1 : z.epoch = 1
  · by_cases h2 : z.from_ = q
    · by_cases h3 : z.num = 0
      · exact .inr ⟨fun h => h.2.2 h3, .inr (.inr ⟨by rw [h1]; rfl, by rw [h2]; simp, by rw [h3]; rfl⟩)⟩
      · exact .inl ⟨⟨h1, h2, h3⟩, by rw [h1]; rfl, by rw [h2]; simp, by rw [bne_iff_ne]; omega⟩
    · exact .inr ⟨fun h => h2 h.2.1, .inr (.inl ⟨by rw [h1]; rfl, beq_eq_false_iff_ne.2 (by omega)⟩)⟩
  · exact .inr ⟨fun h => h1 h.1, .inl (beq_eq_false_iff_ne.2 (by omega))⟩
theorem came_asked {x p : Nat} {first : List Nat} {i : Nat} {s : Dp} (h : Asked first i s) (hi : i < first.length) (y : Nat) (hy : first.getD i 0 = y) (w w0 : World) (F : Asn) (m : DecSt x p s F w0 w) :
    Calls Tryz.prog 10 #[ptr x, .agg (msgOf 6 y 1 0).cells] w fun e w' => e = .returned (.tuple #[.slice none 0 0, .int .i64 0]) ∧ DecSt x p (s.cameS (msgOf 6 y 1 0) []) F w0 w' := by
  subst hy
  have hmem : first.getD i 0 ∈ first := by rw [List.getD_eq_getElem?_getD, List.getElem?_eq_getElem hi]; exact List.getElem_mem _
  have hn := h.ok.jn4 h.seals (first.getD i 0) (by rw [h.join]; exact hmem)
  refine (came_st x p s h.ok (msgOf 6 (first.getD i 0) 1 0) [] w w0 F m (msgOf_ok (by decide) (by omega) (by decide) (by decide))).mono ?_
  rintro e w' (⟨h1, _⟩ | ⟨_, ⟨_, h2, h3⟩ | ⟨h2, _⟩⟩)
  · exact absurd ⟨.inl rfl, rfl, hn.1, hn.2⟩ h1
  · exact ⟨h2, h3⟩
  · exact absurd h2 (by show ¬ 6 = 9; decide)
theorem decide_asked {x p : Nat} {first : List Nat} {s : Dp} (h : Asked first first.length s) (h0 : 0 < first.length) (w w0 : World) (F : Asn) (m : DecSt x p s F w0 w) : Calls Tryz.prog 11 #[ptr x] w fun e w' =>
    ∃ (k : Kn) (C : Option Addr) (c : Nat) (ys : List MsgV) (G : Asn), FirstKn first k ∧ e = .returned (.tuple #[.slice C first.length first.length, .int .i64 0]) ∧ DecSt x p { s with kn := k, seals := false } (rowA 44 16 (.slice C first.length c) first.length (ys.flatMap fun y => y.cells.toList) * (G * F)) w0 w' := by
  obtain ⟨k, hd, hk⟩ := asked_decide h h0
  refine (decide_spec x p s h.ok h.seals w w0 F m).mono ?_
  rintro e w' hR
  rw [hd] at hR
  obtain ⟨C, c, ys, G, e1, _, _, e4⟩ := hR
  rw [hk.chain.many] at e1 e4
  exact ⟨k, C, c, ys, G, hk, e1, e4⟩
set_option maxRecDepth 4000 in
set_option maxHeartbeats 4000000 in
theorem decidersHolder_run (A1 : Option Addr) (n1 c1 : Nat) (first : List Nat) (A2 : Option Addr) (n2 c2 : Nat) (ms : List MsgV) (wants : Bool) (w w0 : World) (S : Asn) [m : Mod w w0 S] (r1 : Reads S A1 n1 (n8s first)) (hn1 : n1 ≤ c1) (h1 : n1 ≤ 140737488355328) (r2 : ReadsMsgs S A2 n2 ms) (h2 : n2 ≤ 9223372036854775807) :
    Calls Tryz.prog 3 #[.slice A1 n1 c1, .slice A2 n2 c2, .bool wants] w fun e w' => e = .returned (.bool true) ∧ Mod w' w0 S := by
  by_cases hgr : 60 < n2
  · have hgi : (60 : Int) < (n2 : Int) := by omega
    go_enter Tryz.func3, Tryz.ntmps3
    go_wp2_with (go_at_call 7; refine (lives_spec _ w0 _ m).mono ?_; rintro e w1 ⟨rfl, m1⟩)
    go_ret
    exact ⟨rfl, m1⟩
  have hgi : ¬ (60 : Int) < (n2 : Int) := by omega
  have hl1 : first.length = n1 := by have := reads_len m r1; simpa using this
  go_enter Tryz.func3, Tryz.ntmps3
  go_wp2_with (go_at_call 8; refine (opened_st _ w0 _ m).mono ?_; rintro e w1 ⟨p, x, rfl, m1⟩)
  refine (want_st x p Dp.start start_ok rfl (by decide) A1 n1 c1 first _ w0 _ m1 r1 hn1 h1).mono ?_
  rintro e w2 (⟨hno, rfl, m2⟩ | ⟨hjo, B, cB, rfl, m2⟩)
  · obtain ⟨Z, mZ, hZ⟩ := m2.opened
    go_wp2_with (go_at_call 7; refine (lives_spec _ w0 _ mZ).mono ?_; rintro e w3 ⟨rfl, m3⟩)
    go_ret
    exact ⟨rfl, Mod.sub S (m := m3)⟩
  · have Hjo := Lib.hid hjo
    clear hjo
    go_wp2_with fail
    rw [hl1] at m2
    obtain ⟨F1, hF1⟩ : ∃ F1, F1 = rowA 44 16 (.slice B (Dp.start.kn.many + n1) cB) (Dp.start.kn.many + n1) (sealCells (Dp.start.kn.nodes ++ first) (Dp.start.kn.most + 1)) * S := ⟨_, rfl⟩
    rw [← hF1] at m2
    have s1 : Sub F1 S := by rw [hF1]; infer_instance
    have r1' := reads_lift s1 r1
    have r2' := r2.lift s1
    have HA := Lib.hid (asked_start Hjo.out)
    have Hl1 := Lib.hid hl1
    clear hF1 hl1 m m1
    go_loopg [11] n1 (fun gk iv wr => ∃ (i : Nat) (s : Dp), i ≤ n1 ∧ gk = n1 - i ∧ iv = .int .i64 (i : Int) ∧ Hid (Asked first i s) ∧ DecSt x p s F1 w0 wr)
    case atStart => exact ⟨0, _, by omega, rfl, rfl, HA, m2⟩
    case round =>
      obtain ⟨i, s, hi, hgk, rfl, Hs, m3⟩ := hrel
      by_cases hlt : i < n1
      · have hii : (i : Int) < (n1 : Int) := by omega
        obtain ⟨Z, mZ, hZ⟩ := m3.opened
        obtain ⟨ad, hA, hsp, hcl⟩ := reads_cell mZ (reads_lift inferInstance r1') (by omega)
        obtain ⟨bn, on_, sp⟩ := ad
        simp only at hsp
        subst hsp hA
        have hil : i < first.length := by rw [Hl1.out]; exact hlt
        have hx := hcl i (.int .u8 ((first.getD i 0 : Nat) : Int)) (by rw [List.getD_eq_getElem?_getD]; simp [hil])
        have Hnext := Lib.hid (asked_step Hs.out hil)
        have HC := Lib.hid (came_asked (x := x) (p := p) Hs.out hil)
        clear hcl mZ hZ
        generalize first.getD i 0 = y at *
        have HC2 := Lib.hid (HC.out y rfl wr w0 F1 m3)
        clear HC
        go_wp2_with (go_at_call 10; refine (HC2.out).mono ?_; rintro e w4 ⟨rfl, m4⟩)
        go_roundg (n1 - (i + 1))
        case measure => omega
        case rel => exact ⟨i + 1, _, by omega, rfl, by go_num, Hnext, m4⟩
      · have hi2 : i = n1 := by omega
        subst hi2
        have hii : ¬ ((i : Int) < (i : Int)) := by omega
        have h0 : 0 < first.length := by have := Hjo.out.2; simpa [Dp.start, Kn.nodes, Kn.zero] using this
        have hD := decide_asked (x := x) (p := p) (by rw [Hl1.out]; exact Hs.out) h0
        rw [Hl1.out] at hD
        have Hl := Lib.hid (fun k hk => led_start (s := s) (k := k) (first := first) (by rw [Hl1.out]; exact Hs.out) hk)
        have HD := Lib.hid (hD wr w0 F1 m3)
        clear hD m3 m2 HA Hs
        cases wants
        · go_wp2_with (go_at_call 11; refine HD.out.mono ?_; rintro e w5 ⟨k, C, cC, ys, G5, hk, rfl, m5⟩)
          have HL := Hl.out k hk
          have hmost : k.most < 4294967295 := by rw [hk.most]; decide
          have m6 := m5.drop.drop
          clear HD m5
          generalize hs2 : ({ s with kn := k, seals := false } : Dp) = s2 at *
          obtain ⟨q1, rfl⟩ : ∃ q1, i = q1 + 1 := ⟨i - 1, by have := Hl1.out; omega⟩
          obtain ⟨Z0, mZ0, _⟩ := m6.opened
          obtain ⟨⟨bn1, on1, sp1⟩, hA1, hsp1, _⟩ := reads_cell mZ0 (reads_lift inferInstance r1') (Nat.succ_pos _)
          simp only at hsp1
          subst hsp1 hA1
          have hq : CellAt F1 bn1 (on1 + q1) (vu8 (first.getD q1 0)) := reads_at_cell r1' (Nat.succ_pos _) q1 (n8_at (by have := Hl1.out; omega))
          have Hq : Hid (first.getD (first.length - 1) 0 = first.getD q1 0) := by show _ = _; rw [Hl1.out]; rfl
          generalize first.getD q1 0 = q at *
          clear mZ0
          go_loopg [12, 13, 14] n2 (fun gk hv sv iv wr => ∃ (i h st : Nat) (s : Dp), i ≤ n2 ∧ gk = n2 - i ∧ hv = .int .u8 (h : Int) ∧ sv = .int .u32 (st : Int) ∧ iv = .int .i64 (i : Int) ∧ Hid (Led first false h st s) ∧ DecSt x p s F1 w0 wr)
          case atStart => exact ⟨0, 0, 0, _, by omega, rfl, rfl, rfl, rfl, HL, m6⟩
          case round =>
            obtain ⟨i2, h, st, s, hi2, hgk2, rfl, rfl, rfl, Hs, m7⟩ := hrel
            by_cases hlt2 : i2 < n2
            · have hii2 : (i2 : Int) < (n2 : Int) := by omega
              obtain ⟨Z, mZ, hZ⟩ := m7.opened
              obtain ⟨ad, hA, hsp, hcl⟩ := reads_cell mZ (reads_lift inferInstance r2'.cells) (by omega)
              obtain ⟨bn2, on2, sp⟩ := ad
              simp only at hsp
              subst hsp hA
              have hlen := r2'.len
              have hil : i2 < ms.length := by omega
              obtain ⟨has, hmsg⟩ := r2'.each ms[i2] (List.getElem_mem _)
              have Hc : Hid (∀ (j : Nat) v, ms[i2].cells[j]? = some v → wr.cell? ⟨bn2, on2 + i2 * 16 + j, none⟩ = some v) := fun j v hv => by rw [Nat.add_assoc]; exact hcl _ _ (msg_cell ms i2 j v hil hv)
              have Hone := Lib.hid hmsg.one
              have Hz := Lib.hid (as9_ok hmsg (as9_one hmsg.one))
              have HZ := Lib.hid hZ
              clear hcl hmsg hlen hZ
              generalize ms[i2] = y at *
              go_wp2_with first | (refine wpList_load_row Hc.out rfl rfl rfl ?_) | (refine wpList_store_msg Hone.out rfl rfl rfl rfl rfl ?_; intro w8 m8) | (refine wpList_load_msg rfl rfl rfl ?_)
              refine calls_gen (w0 := w0) ?_
              intro w9 m9
              rw [as9_cells] at m9
              have hz9 : y.as9.say = 9 := rfl
              clear Hc Hone m8
              generalize y.as9 = z at *
              generalize wr.heap.size = gx at *
              simp only [emp_sep] at m9
              refine (came_st x p s Hs.out.ok z has w9 w0 _ (HZ.out w9 (Go.Sl.blk gx (.cells z.cells 44) * F1) (Mod.to (m := m9) (sep_left_comm _ _ _))) (Hz.out.lift inferInstance)).mono ?_
              rintro e w10 (⟨hbad, rfl, m10⟩ | ⟨hok, ⟨hbad, _⟩ | ⟨_, ⟨hnr, rfl, m10⟩ | ⟨hr, B5, K5, rfl, r5, m10⟩⟩⟩)
              · clear hbad
                obtain ⟨Z10, mZ10, hZ10⟩ := m10.opened
                have HZ10 := Lib.hid hZ10
                clear hZ10 m9
                go_wp2_with fail
                go_quiet (fail)
                go_wp2_with (go_at_call 12; refine (holder_led Hs.out _ w0 _ (HZ10.out _ _ (Mod.pull Z10))).mono ?_; rintro e w11 ⟨rfl, m11⟩)
                go_roundg (n2 - (i2 + 1))
                case measure => omega
                case rel => exact ⟨i2 + 1, h, st, s, by omega, rfl, rfl, rfl, by go_num, Hs, m11.drop⟩
              · rw [hz9] at hbad; exact absurd hbad (by decide)
              · have hnq : ¬ (z.epoch = 1 ∧ z.from_ = q ∧ z.num ≠ 0) := by rw [← Hq.out]; exact fun hc => hnr ((led_is Hs.out (by rw [Hl1.out]; exact Nat.succ_pos _) z).2 hc)
                rcases (ready_parts z q).resolve_left (fun hc => hnq hc.1) with ⟨_, b1 | ⟨b1, b2⟩ | ⟨b1, b2, b3⟩⟩
                all_goals
                  clear hnr hnq
                  obtain ⟨Z10, mZ10, hZ10⟩ := m10.opened
                  have HZ10 := Lib.hid hZ10
                  clear hZ10 m9
                  go_wp2_with fail
                  go_quiet (fail)
                  go_wp2_with (go_at_call 12; refine (holder_led Hs.out _ w0 _ (HZ10.out _ _ (Mod.pull Z10))).mono ?_; rintro e w11 ⟨rfl, m11⟩)
                  go_roundg (n2 - (i2 + 1))
                  case measure => omega
                  case rel => exact ⟨i2 + 1, h, st, s, by omega, rfl, rfl, rfl, by go_num, Hs, m11.drop⟩
              · have hrq := (led_is Hs.out (by rw [Hl1.out]; exact Nat.succ_pos _) z).1 hr
                rw [Hq.out] at hrq
                obtain ⟨_, b1, b2, b3⟩ := (ready_parts z q).resolve_right (fun hc => hc.1 hrq)
                obtain ⟨Z10, mZ10, hZ10⟩ := m10.opened
                have HZ10 := Lib.hid hZ10
                rw [Hs.out.epoch] at r5
                obtain ⟨⟨b5, o5, s5⟩, hB5, hs5, _⟩ := reads_cell mZ10 (reads_lift inferInstance r5) (by decide)
                simp only at hs5
                subst hs5 hB5
                have k0 : CellAt K5 b5 o5 (.int .u8 10) := reads_at_cell r5 (by decide) 0 rfl
                have k2 : CellAt K5 b5 (o5 + 2) (vu8 z.from_) := reads_at_cell r5 (by decide) 2 rfl
                have k3 : CellAt K5 b5 (o5 + 3) (.int .u32 1) := reads_at_cell r5 (by decide) 3 rfl
                have k5 : CellAt K5 b5 (o5 + 5) (vu32 z.num) := reads_at_cell r5 (by decide) 5 rfl
                have HL2 := Lib.hid (led_ready Hs.out hok.2.2 Hz.out.ok.num)
                have Hzq := Lib.hid hrq.2.1
                clear hZ10 m9 hrq hr hok r5
                go_wp2_with fail
                go_quiet (fail)
                go_wp2_with (go_at_call 12; refine (holder_led HL2.out _ w0 _ (HZ10.out _ _ (Mod.pull Z10))).mono ?_; rintro e w11 ⟨rfl, m11⟩)
                go_roundg (n2 - (i2 + 1))
                case measure => omega
                case rel => exact ⟨i2 + 1, z.from_, z.num, s.cameR z, by omega, rfl, by rw [Hzq.out], rfl, by go_num, HL2, m11.drop.drop⟩
            · have hi3 : i2 = n2 := by omega
              subst hi3
              have hii2 : ¬ ((i2 : Int) < (i2 : Int)) := by omega
              obtain ⟨Z, mZ, hZ⟩ := m7.opened
              go_wp2_with (go_at_call 7; refine (lives_spec _ w0 _ mZ).mono ?_; rintro e w12 ⟨rfl, m12⟩)
              go_ret
              exact ⟨rfl, (Mod.sub F1 (m := m12)).sub S⟩
        · go_wp2_with (go_at_call 11; refine HD.out.mono ?_; rintro e w5 ⟨k, C, cC, ys, G5, hk, rfl, m5⟩)
          have HL := Hl.out k hk
          have hmost : k.most < 4294967295 := by rw [hk.most]; decide
          have m6 := m5.drop.drop
          have hlost : ({ s with kn := k, seals := false } : Dp).kn.lost = false := hk.lost
          have hmost2 : ({ s with kn := k, seals := false } : Dp).kn.most < 4294967295 := hmost
          clear HD m5
          generalize hs2 : ({ s with kn := k, seals := false } : Dp) = s2 at *
          refine (want_led HL hlost hmost2 h0 w5 w0 F1 m6).mono ?_
          rintro e w6 ⟨B6, n6, rfl, m6⟩
          replace HL := led_want HL hmost2 h0
          go_wp2_with fail
          obtain ⟨q1, rfl⟩ : ∃ q1, i = q1 + 1 := ⟨i - 1, by have := Hl1.out; omega⟩
          obtain ⟨Z0, mZ0, _⟩ := m6.opened
          obtain ⟨⟨bn1, on1, sp1⟩, hA1, hsp1, _⟩ := reads_cell mZ0 (reads_lift inferInstance r1') (Nat.succ_pos _)
          simp only at hsp1
          subst hsp1 hA1
          have hq : CellAt F1 bn1 (on1 + q1) (vu8 (first.getD q1 0)) := reads_at_cell r1' (Nat.succ_pos _) q1 (n8_at (by have := Hl1.out; omega))
          have Hq : Hid (first.getD (first.length - 1) 0 = first.getD q1 0) := by show _ = _; rw [Hl1.out]; rfl
          generalize first.getD q1 0 = q at *
          clear mZ0
          go_loopg [12, 13, 14] n2 (fun gk hv sv iv wr => ∃ (i h st : Nat) (s : Dp), i ≤ n2 ∧ gk = n2 - i ∧ hv = .int .u8 (h : Int) ∧ sv = .int .u32 (st : Int) ∧ iv = .int .i64 (i : Int) ∧ Hid (Led first true h st s) ∧ DecSt x p s F1 w0 wr)
          case atStart => exact ⟨0, 0, 0, _, by omega, rfl, rfl, rfl, rfl, HL, m6⟩
          case round =>
            obtain ⟨i2, h, st, s, hi2, hgk2, rfl, rfl, rfl, Hs, m7⟩ := hrel
            by_cases hlt2 : i2 < n2
            · have hii2 : (i2 : Int) < (n2 : Int) := by omega
              obtain ⟨Z, mZ, hZ⟩ := m7.opened
              obtain ⟨ad, hA, hsp, hcl⟩ := reads_cell mZ (reads_lift inferInstance r2'.cells) (by omega)
              obtain ⟨bn2, on2, sp⟩ := ad
              simp only at hsp
              subst hsp hA
              have hlen := r2'.len
              have hil : i2 < ms.length := by omega
              obtain ⟨has, hmsg⟩ := r2'.each ms[i2] (List.getElem_mem _)
              have Hc : Hid (∀ (j : Nat) v, ms[i2].cells[j]? = some v → wr.cell? ⟨bn2, on2 + i2 * 16 + j, none⟩ = some v) := fun j v hv => by rw [Nat.add_assoc]; exact hcl _ _ (msg_cell ms i2 j v hil hv)
              have Hone := Lib.hid hmsg.one
              have Hz := Lib.hid (as9_ok hmsg (as9_one hmsg.one))
              have HZ := Lib.hid hZ
              clear hcl hmsg hlen hZ
              generalize ms[i2] = y at *
              go_wp2_with first | (refine wpList_load_row Hc.out rfl rfl rfl ?_) | (refine wpList_store_msg Hone.out rfl rfl rfl rfl rfl ?_; intro w8 m8) | (refine wpList_load_msg rfl rfl rfl ?_)
              refine calls_gen (w0 := w0) ?_
              intro w9 m9
              rw [as9_cells] at m9
              have hz9 : y.as9.say = 9 := rfl
              clear Hc Hone m8
              generalize y.as9 = z at *
              generalize wr.heap.size = gx at *
              simp only [emp_sep] at m9
              refine (came_st x p s Hs.out.ok z has w9 w0 _ (HZ.out w9 (Go.Sl.blk gx (.cells z.cells 44) * F1) (Mod.to (m := m9) (sep_left_comm _ _ _))) (Hz.out.lift inferInstance)).mono ?_
              rintro e w10 (⟨hbad, rfl, m10⟩ | ⟨hok, ⟨hbad, _⟩ | ⟨_, ⟨hnr, rfl, m10⟩ | ⟨hr, B5, K5, rfl, r5, m10⟩⟩⟩)
              · clear hbad
                obtain ⟨Z10, mZ10, hZ10⟩ := m10.opened
                have HZ10 := Lib.hid hZ10
                clear hZ10 m9
                go_wp2_with fail
                go_quiet (fail)
                go_wp2_with (go_at_call 12; refine (holder_led Hs.out _ w0 _ (HZ10.out _ _ (Mod.pull Z10))).mono ?_; rintro e w11 ⟨rfl, m11⟩)
                go_roundg (n2 - (i2 + 1))
                case measure => omega
                case rel => exact ⟨i2 + 1, h, st, s, by omega, rfl, rfl, rfl, by go_num, Hs, m11.drop⟩
              · rw [hz9] at hbad; exact absurd hbad (by decide)
              · clear hnr
                obtain ⟨Z10, mZ10, hZ10⟩ := m10.opened
                have HZ10 := Lib.hid hZ10
                clear hZ10 m9
                go_wp2_with fail
                go_quiet (fail)
                go_wp2_with (go_at_call 12; refine (holder_led Hs.out _ w0 _ (HZ10.out _ _ (Mod.pull Z10))).mono ?_; rintro e w11 ⟨rfl, m11⟩)
                go_roundg (n2 - (i2 + 1))
                case measure => omega
                case rel => exact ⟨i2 + 1, h, st, s, by omega, rfl, rfl, rfl, by go_num, Hs, m11.drop⟩
              · exact absurd hr (led_not Hs.out z)
            · have hi3 : i2 = n2 := by omega
              subst hi3
              have hii2 : ¬ ((i2 : Int) < (i2 : Int)) := by omega
              obtain ⟨Z, mZ, hZ⟩ := m7.opened
              go_wp2_with (go_at_call 7; refine (lives_spec _ w0 _ mZ).mono ?_; rintro e w12 ⟨rfl, m12⟩)
              go_ret
              exact ⟨rfl, (Mod.sub F1 (m := m12)).sub S⟩
theorem decidersHolder_walk (A1 : Option Addr) (n1 c1 : Nat) (A2 : Option Addr) (n2 c2 : Nat) (wants : Bool) (w w0 : World) (S : Asn) [m : Mod w w0 S] (hs : (∃ l : List Nat, Reads S A1 n1 (n8s l) ∧ n1 ≤ c1 ∧ n1 ≤ 140737488355328) ∧ ∃ l, ReadsMsgs S A2 n2 l ∧ n2 ≤ 9223372036854775807) :
    Calls Tryz.prog 3 #[.slice A1 n1 c1, .slice A2 n2 c2, .bool wants] w fun e w' => e = .returned (.bool true) ∧ Mod w' w0 S := by
  obtain ⟨⟨l, r1, h1, h2⟩, ms, r2, h3⟩ := hs
  exact decidersHolder_run A1 n1 c1 l A2 n2 c2 ms wants w w0 S r1 h1 h2 r2 h3
end Go.Proofs.YtmpgnnjhgjfgaaaGreatDoor
