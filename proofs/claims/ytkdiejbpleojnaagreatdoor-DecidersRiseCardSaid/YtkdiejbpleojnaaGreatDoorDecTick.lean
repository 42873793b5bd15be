/- The walk of the decider's Tick: contracts over the small separation logic; the conditions are in each theorem. -/
import Derived.Test.YtkdiejbpleojnaaGreatDoorDecMay
import Derived.Deep.LoopGhost
import Derived.Deep.QuietTactic
import Derived.BigQuiet
namespace Go.Proofs.YtkdiejbpleojnaaGreatDoor
open Go.RowKit Go.Sl
attribute [local go_sem] cell_of cellAt_of frozen_of zero_names DecV.at0 DecV.at1 DecV.at2 DecV.at3 DecV.at4 DecV.at5 DecV.at6 DecV.at7 DecV.at8 DecV.at9 DecV.at10 DecV.at11 DecV.at12 DecV.at13 DecV.at14 DecV.at15 DecV.at16 DecV.at17 DecV.at18 DecV.at19 DecV.at20 DecV.at21 DecV.at22 DecV.at23 DecV.at24 DecV.at25 DecV.at26 DecV.at27 DecV.at28 DecV.at29 DecV.at30 DecV.at31
set_option maxRecDepth 4000 in
set_option maxHeartbeats 4000000 in
/-- Where no chain is wanted. -/
theorem tick_goes (x p : Nat) (s : Dp) (hs : DpOk s) (hsl : s.seals = false) (w w0 : World) (F : Asn) (m : DecSt x p s F w0 w) : Calls Tryz.prog 56 #[ptr x] w fun e w' => (∃ a b, e = .returned (.tuple #[a, b])) ∧ DecSt x p s F w0 w' := by
  obtain ⟨v, D, g, j, ks, b, G, hat, m⟩ := m
  obtain rfl := hat.pd
  have hsv : v.seals = false := by rw [hat.seals]; exact hsl
  have hk : KnOk v.kn := by rw [hat.kn]; exact hs.kn
  have Hk := Lib.hid hk
  have Hat := Lib.hid hat
  clear hat hsl hs hk
  go_enter Tryz.func56, Tryz.ntmps56
  go_wp2_with (go_at_call 124; refine (dthere_spec x v _ w0 _ m).mono ?_; rintro e w1 ⟨rfl, m1⟩)
  refine (goes_spec x v _ w0 _ Hk.out m1).mono ?_
  rintro e w2 ⟨C, c, ys, G2, rfl, _, _, m2⟩
  go_wp2_with fail
  go_ret2
  exact ⟨⟨_, _, rfl⟩, v, D, g, j, ks, b, G, Hat.out, Mod.drop (A := G2) (m := Mod.drop (m := m2))⟩
set_option maxRecDepth 4000 in
set_option maxHeartbeats 4000000 in
/-- Where one is. -/
theorem tick_seals (x p : Nat) (s : Dp) (hs : DpOk s) (hsl : s.seals = true) (w w0 : World) (F : Asn) (m : DecSt x p s F w0 w) : Calls Tryz.prog 56 #[ptr x] w fun e w' => (∃ a b, e = .returned (.tuple #[a, b])) ∧ DecSt x p s F w0 w' := by
  obtain ⟨v, D, g, j, ks, b, G, hat, m⟩ := m
  obtain rfl := hat.pd
  have hsv : v.seals = true := by rw [hat.seals]; exact hsl
  have hm4 : v.kn.many ≤ 4 := by rw [hat.kn]; exact hs.kn.many
  have hroom : v.kn.many + v.jn ≤ 4 := by rw [hat.kn, hat.jn]; exact hs.room hsl
  have Hm : Hid (∀ n ∈ v.kn.nodes ++ s.join, 1 ≤ n ∧ n ≤ 4) := by rw [hat.kn]; exact (hs.once hsl).2
  have Hat := Lib.hid hat
  clear hat hsl hs
  go_enter Tryz.func56, Tryz.ntmps56
  go_wp2_with (go_at_call 124; refine (dthere_spec x v _ w0 _ m).mono ?_; rintro e w1 ⟨rfl, m1⟩)
  refine (members_spec x v s.join _ w0 _ m1 inferInstance hm4 (reads_lift inferInstance Hat.out.join) (by omega)).mono ?_
  rintro e w2 ⟨A3, c3, rfl, m2⟩
  obtain ⟨N, hN⟩ : ∃ N, v.kn.many + v.jn = N := ⟨_, rfl⟩
  obtain ⟨L, hL⟩ : ∃ L, v.kn.nodes ++ s.join = L := ⟨_, rfl⟩
  have hLl : L.length = N := by rw [← hL, List.length_append, nodes_len hm4, ← hN, Hat.out.jn]
  rw [hN] at hroom
  rw [hL] at Hm
  rw [hN, hL] at m2
  have HN := Lib.hid hN
  have hNI : (N : Int) = (v.kn.many : Int) + (v.jn : Int) := by omega
  clear hL m1 m hN
  go_wp2_with fail
  go_loopg [2, 21] N (fun gk ov iv wr => ∃ (t : Nat) (B : Option Addr) (cB q : Nat) (xs : List Value), t ≤ N ∧ gk = N - t ∧ ov = .slice B q cB ∧ iv = .int .i64 (t : Int) ∧ q ≤ t ∧ Mod wr w0 (rowA 98 16 (.slice B q cB) q xs * (rowA 5 1 (.slice A3 N c3) N (n8s L) * (decB x v * (diskA v.pd D * (jourA j v.pd v.name b.length * (G * F)))))))
  case atStart => exact ⟨0, none, 0, 0, [], by omega, rfl, rfl, rfl, Nat.le_refl _, row_none_n m2⟩
  case round =>
    obtain ⟨t, B, cB, q, xs, ht, hgk, rfl, rfl, hqt, m10⟩ := hrel
    by_cases hlt : t < N
    · have hii : (t : Int) < (v.kn.many : Int) + (v.jn : Int) := by omega
      have hbd : t < v.kn.many + v.jn := by rw [HN.out]; exact hlt
      obtain ⟨ad, hA, hsp, hcl⟩ := reads_cell m10 (inferInstance : Reads _ A3 N (n8s L)) (by omega)
      obtain ⟨bn, on_, sp⟩ := ad
      simp only at hsp
      subst hsp hA
      have htl : t < L.length := by omega
      have hx := hcl t (.int .u8 ((L.getD t 0 : Nat) : Int)) (by rw [List.getD_eq_getElem?_getD]; simp [htl])
      have hn4 := Hm.out (L.getD t 0) (by rw [List.getD_eq_getElem?_getD, List.getElem?_eq_getElem htl]; exact List.getElem_mem _)
      have hn5 : ((L.getD t 0 : Nat) : Int) < 5 := by omega
      have hA := Hat.out.ans (L.getD t 0) hn4.2
      have hvA := v.atA (L.getD t 0) hn4.2
      clear hcl htl hbd
      generalize s.an (L.getD t 0) = an at *
      generalize v.a (L.getD t 0) = va at *
      generalize L.getD t 0 = n at *
      cases hA with
      | yes h1 h2 h3 =>
        rename_i ga y has
        have hvP : v.cells[27 + n]? = some (ptr ga) := hvA
        clear hvA
        go_wp2_with fail
        go_roundg (N - (t + 1))
        case measure => omega
        case rel => exact ⟨t + 1, B, cB, q, xs, by omega, rfl, rfl, by go_num, by omega, m10⟩
      | no =>
        have hvP : v.cells[27 + n]? = some (.pointer none) := hvA
        clear hvA
        have hS := seal_spec x v n wr w0 _ m10
        have HS := Lib.hid hS
        clear hS
        go_wp2_with first | (go_at_call 128; refine HS.out.mono ?_; rintro e w11 ⟨rfl, m11⟩) | (refine wpList_build_one (t := 101) (e := 98) (size := 16) (bytes := 192) (cs := sealMsg n v.kn.most) rfl rfl rfl rfl (by decide) ?_) | (at_builtin; refine wpList_mod (w0 := w0) ?_; intro mw; have mx := Mod.pull (m := mw) (rowA 98 16 (.slice B q cB) q xs); refine wpList_append_n (t := 101) (e := 98) (size := 16) (bytes := 192) (k := 1) (c := 1) (A := ⟨w11.heap.size, 0, none⟩) (news := (sealMsg n v.kn.most).toList) rfl rfl mx rfl rfl (reads_blk rfl rfl) (by decide) (one_seal n _) (by unfold maxLen; omega) (by omega) ?_; clear mw mx; intro A' c' w12 m12)
        have m13 : Mod w12 w0 _ := Mod.dropped (Go.Sl.blk w11.heap.size (.cells (sealMsg n v.kn.most) 98)) (m := m12)
        go_roundg (N - (t + 1))
        case measure => omega
        case rel => exact ⟨t + 1, A', c', q + 1, _, by omega, rfl, rfl, by go_num, by omega, m13⟩
    · have htN : t = N := by omega
      have hii : ¬ ((t : Int) < (v.kn.many : Int) + (v.jn : Int)) := by omega
      have hcap := row_len_cap m10
      go_wp2_with (go_at_call 129; refine (clipMsg_spec B q cB wr w0 _ m10 hcap).mono ?_; rintro e w14 ⟨rfl, m14⟩)
      go_ret2
      exact ⟨⟨_, _, rfl⟩, v, D, g, j, ks, b, G, Hat.out, Mod.drop (m := Mod.drop (m := m14))⟩
end Go.Proofs.YtkdiejbpleojnaaGreatDoor
