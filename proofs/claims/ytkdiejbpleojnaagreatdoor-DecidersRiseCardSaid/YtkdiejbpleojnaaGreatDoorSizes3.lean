/- The walks of the laws' size of a message and of what is too much: contracts over the small separation logic; the conditions are in each theorem. -/
import Derived.Test.YtkdiejbpleojnaaGreatDoorSizes2
import Derived.Deep.RegionHeld3
namespace Go.Proofs.YtkdiejbpleojnaaGreatDoor
open Go.ChangeShapes Go.WideShapes Go.ChangeAt Go.RowKit Go.Sl Go.Deep
attribute [local go_sem] cell_of cellAt_of frozen_of zero_names
section
variable {H : Type} {enc : TypeId × Value → H} {W : World} {base : Nat} {held : Bool}
theorem bytes_len (a : Option Addr) (n c : Nat) (w w0 : World) (S : Asn) (m : Mod w w0 S) : Calls Tryz.prog 194 #[.slice a n c] w fun e w' => (∃ z : Int, e = .returned (.int .i64 z)) ∧ Mod w' w0 S := by
  go_enter Tryz.func194, Tryz.ntmps194
  go_wp2
  go_ret
  exact ⟨⟨_, rfl⟩, m⟩
theorem nums_len (a : Option Addr) (n c : Nat) (w w0 : World) (S : Asn) (m : Mod w w0 S) : Calls Tryz.prog 195 #[.slice a n c] w fun e w' => (∃ z : Int, e = .returned (.int .i64 z)) ∧ Mod w' w0 S := by
  go_enter Tryz.func195, Tryz.ntmps195
  go_wp2
  go_ret
  exact ⟨⟨_, rfl⟩, m⟩
set_option maxRecDepth 4000 in
set_option maxHeartbeats 4000000 in
theorem msg_size (cs : List Value) (h : Lies enc W base held 98 cs) (w w0 : World) (S : Asn) (m : Mod w w0 S) (s : Sub S (just (hp W))) : Calls Tryz.prog 123 #[.agg cs.toArray] w fun e w' => (∃ z : Int, e = .returned (.int .i64 z)) ∧ Mod w' w0 S := by
  obtain ⟨u0, u1, u2, u3, u4, u5, u6, u7, a8, n8, c8, a9, n9, c9, a10, n10, c10, a11, n11, c11, a12, n12, c12, rp, rfl, hone, l10, l11, l12, lr⟩ := lies_msg h
  obtain ⟨v0, b, a, n, c, rfl, h0, _⟩ := lies_reply lr
  have L10 := Lib.hid l10
  have L11 := Lib.hid l11
  have L12 := Lib.hid l12
  have LR := Lib.hid lr
  simp only [Bool.and_eq_true] at hone
  obtain ⟨⟨⟨⟨⟨⟨⟨o0, o1⟩, o2⟩, o3⟩, o4⟩, o5⟩, o6⟩, o7⟩ := hone
  clear h l10 l11 l12 lr
  go_enter Tryz.func123, Tryz.ntmps123
  go_wp2_with first
    | (go_at_call 194; refine (bytes_len a8 n8 c8 _ w0 _ inferInstance).mono ?_; rintro e w1 ⟨⟨z1, rfl⟩, m1⟩)
    | (go_at_call 195; refine (nums_len a9 n9 c9 _ w0 _ inferInstance).mono ?_; rintro e w2 ⟨⟨z2, rfl⟩, m2⟩)
    | (go_at_call 196; refine (items_size a10 n10 c10 L10.out _ w0 _ inferInstance (by infer_instance)).mono ?_; rintro e w3 ⟨⟨z3, rfl⟩, m3⟩)
    | (go_at_call 197; refine (rows_size a11 n11 c11 L11.out _ w0 _ inferInstance (by infer_instance)).mono ?_; rintro e w4 ⟨⟨z4, rfl⟩, m4⟩)
    | (go_at_call 198; refine (saids_size a12 n12 c12 L12.out _ w0 _ inferInstance (by infer_instance)).mono ?_; rintro e w5 ⟨⟨z5, rfl⟩, m5⟩)
    | (go_at_call 199; refine (reply_size _ LR.out _ w0 _ inferInstance (by infer_instance)).mono ?_; rintro e w6 ⟨⟨z6, rfl⟩, m6⟩)
  all_goals
    go_ret
    exact ⟨⟨_, rfl⟩, Mod.drop (m := (inferInstance : Mod _ w0 _))⟩
/-- If it is not too much, there are few. -/
def GreatSays (n : Nat) (e : Ending) : Prop := ∃ b : Bool, e = .returned (.bool b) ∧ (b = false → n ≤ 120)
set_option maxRecDepth 100000 in
theorem cells_act19 : Tryz.prog.cellsOf 100 = 20 := by kernel_rfl
set_option maxRecDepth 100000 in
theorem lies_act {cs : List Value} (h : Lies enc W base held 100 cs) : ∃ (kd : Nat) (a : Option Addr) (n c : Nat) (ms : List Value) (keep : Int) (names : Bool), cs = .int .u8 (kd : Int) :: .slice a n c :: (ms ++ [.int .i64 keep, .bool names]) ∧ kd < 256 ∧ ms.length = 16 ∧ Lies enc W base held 46 [.slice a n c] ∧ Lies enc W base held 98 ms := by
  obtain ⟨f, x, h⟩ := h
  obtain ⟨xs, k, hk, hxy, hl, hxl, hf⟩ := DataW.trod_struct Tryz.underlying100 h
  rw [cells_act19] at hl
  match xs, hxl, cs, hl with
  | [y0, y1, y2, y3, y4], _, [v0, v1, v2, v3, v4, v5, v6, v7, v8, v9, v10, v11, v12, v13, v14, v15, v16, v17, v18, v19], _ =>
    have g0 := hf 0 _ rfl
    have g1 := hf 1 _ rfl
    have g2 := hf 2 _ rfl
    have g3 := hf 3 _ rfl
    have g4 := hf 4 _ rfl
    simp [cells_u8, cells_bytes, cells_msg, cells_int, cells_bool] at g0 g1 g2 g3 g4
    obtain ⟨n0, e0, _, wf0⟩ := DataW.trod_int Tryz.underlying5 g0
    obtain ⟨a1, m1, c1, e1⟩ := any_slice Tryz.underlying46 g1
    obtain ⟨n3, e3, _, _⟩ := DataW.trod_int Tryz.underlying3 g3
    obtain ⟨b4, e4, _⟩ := DataW.trod_bool Tryz.underlying4 g4
    simp at e0 e3 e4
    obtain ⟨k0, rfl, hk0⟩ := wf_u8 wf0
    subst e0 e1 e3 e4
    exact ⟨k0, a1, m1, c1, [v2, v3, v4, v5, v6, v7, v8, v9, v10, v11, v12, v13, v14, v15, v16, v17], n3, b4, rfl, hk0, rfl, ⟨_, _, g1⟩, _, _, g2⟩
set_option maxRecDepth 4000 in
set_option maxHeartbeats 4000000 in
theorem great_size (a : Option Addr) (n c : Nat) (h : Lies enc W base held 82 [.slice a n c]) (w w0 : World) (S : Asn) (m : Mod w w0 S) (s : Sub S (just (hp W))) : Calls Tryz.prog 47 #[.slice a n c] w fun e w' => GreatSays n e ∧ Mod w' w0 S := by
  obtain ⟨L, r, hnc, hc, hel⟩ := h.cells Tryz.underlying82 cells_act19 (by decide)
  have r2 := reads_lift s r
  have Hel := Lib.hid hel
  clear hel r h
  go_enter Tryz.func47, Tryz.ntmps47
  go_wp2_with fail
  have hN : (n : Int) ≤ 9223372036854775807 := by unfold maxLen at hc; omega
  obtain ⟨fs, hu⟩ := und_msg
  have Hu := Lib.hid hu
  clear hu
  go_loopg [3, 4] n (fun gk zv iv wr => ∃ (i : Nat) (z : Int), i ≤ n ∧ gk = n - i ∧ zv = .int .i64 z ∧ iv = .int .i64 (i : Int) ∧ Mod wr w0 S)
  case atStart => exact ⟨0, 0, by omega, rfl, rfl, rfl, m⟩
  case round =>
    obtain ⟨i, z, hi, hgk, rfl, rfl, m1⟩ := hrel
    by_cases hlt : i < n
    · have hii : (i : Int) < (n : Int) := by omega
      obtain ⟨cs, hcl, hlies, hcell⟩ := Hel.out i hlt
      obtain ⟨kd, aj, nj, cj, ms, keep, names, rfl, _, hml, _, hmsg⟩ := lies_act hlies
      obtain ⟨⟨bn, on_, sp⟩, hA, hsp, hxx⟩ := reads_cell m1 r2 (by omega)
      clear hxx
      simp only at hsp
      subst hsp hA
      have k1 : CellAt S bn (on_ + i * 20 + 1) (.slice aj nj cj) := by have := reads_at_cell r2 (by omega) (i * 20 + 1) (hcell 1 (by decide)); rw [← Nat.add_assoc] at this; exact this
      have Hr : Hid (∀ u, Mod u w0 S → u.rangeAt bn (on_ + i * 20 + 2) ms) := fun u mu => by
        have := range_of mu r2 (by omega) (i * 20 + 2) ms (fun j v hv => by
          have hj : j < 16 := by rw [← hml]; exact (List.getElem?_eq_some_iff.1 hv).1
          rw [Nat.add_assoc, hcell (2 + j) (by omega), show 2 + j = j + 1 + 1 by omega, List.getElem?_cons_succ, List.getElem?_cons_succ, List.getElem?_append_left (by omega)]
          exact hv)
        rw [← Nat.add_assoc] at this; exact this
      have Hm := Lib.hid hmsg
      have Hml := Lib.hid hml
      clear hcell hcl hlies hmsg hml
      go_wp2_with fail
      refine wp_region_held_drew (S := fun u => Mod u w0 S) (by kernel_rfl) (Mod.drew (m := m1)) (fun hHeld => ?_)
      refine' wpAnyH_take (i := 0) (v := ?_) (by simp only [List.getElem?_toArray, List.getElem?_cons_zero]; rfl) (by kernel_rfl) (by kernel_rfl) (by kernel_rfl) (by exact fun _ _ _ h => h) (Or.inl ⟨by rfl, ?_⟩) (by assumption) ?_
      rotate_left
      · intro u hSw
        have hSw2 : Mod u w0 S := hSw
        go_simp
        try with_reducible rfl
      try simp only [Act.put, List.setIfInBounds_toArray, List.set_cons_zero, List.set_cons_succ]
      refine' wpAnyH_take (i := 1) (v := ?_) (by simp only [List.getElem?_toArray, List.getElem?_cons_succ, List.getElem?_cons_zero]; rfl) (by kernel_rfl) (by kernel_rfl) (by kernel_rfl) (by exact fun _ _ _ h => h) (Or.inl ⟨by rfl, ?_⟩) (by assumption) ?_
      rotate_left
      · intro u hSw
        have hSw2 : Mod u w0 S := hSw
        go_simp
        try with_reducible rfl
      try simp only [Act.put, List.setIfInBounds_toArray, List.set_cons_zero, List.set_cons_succ]
      refine' wpAnyH_take (i := 2) (v := ?_) (by simp only [List.getElem?_toArray, List.getElem?_cons_succ, List.getElem?_cons_zero]; rfl) (by kernel_rfl) (by kernel_rfl) (by kernel_rfl) (by exact fun _ _ _ h => h) (Or.inl ⟨by rfl, ?_⟩) (by assumption) ?_
      rotate_left
      · intro u hSw
        have hSw2 : Mod u w0 S := hSw
        go_simp
        try with_reducible rfl
      try simp only [Act.put, List.setIfInBounds_toArray, List.set_cons_zero, List.set_cons_succ]
      refine' wpAnyH_take (i := 3) (v := ?_) (by simp only [List.getElem?_toArray, List.getElem?_cons_succ, List.getElem?_cons_zero]; rfl) (by kernel_rfl) (by kernel_rfl) (by kernel_rfl) (by exact fun _ _ _ h => h) (Or.inl ⟨by rfl, ?_⟩) (by assumption) ?_
      rotate_left
      · intro u hSw
        have hSw2 : Mod u w0 S := hSw
        go_simp
        try with_reducible rfl
      try simp only [Act.put, List.setIfInBounds_toArray, List.set_cons_zero, List.set_cons_succ]
      refine' wpAnyH_take (i := 4) (v := ?_) (by simp only [List.getElem?_toArray, List.getElem?_cons_succ, List.getElem?_cons_zero]; rfl) (by kernel_rfl) (by kernel_rfl) (by kernel_rfl) (by exact fun _ _ _ h => h) (Or.inl ⟨by rfl, ?_⟩) (by assumption) ?_
      rotate_left
      · intro u hSw
        have hSw2 : Mod u w0 S := hSw
        go_simp
        try with_reducible rfl
      try simp only [Act.put, List.setIfInBounds_toArray, List.set_cons_zero, List.set_cons_succ]
      refine' wpAnyH_take (i := 5) (v := ?_) (by simp only [List.getElem?_toArray, List.getElem?_cons_succ, List.getElem?_cons_zero]; rfl) (by kernel_rfl) (by kernel_rfl) (by kernel_rfl) (by exact fun _ _ _ h => h) (Or.inl ⟨by rfl, ?_⟩) (by assumption) ?_
      rotate_left
      · intro u hSw
        have hSw2 : Mod u w0 S := hSw
        go_simp
        try with_reducible rfl
      try simp only [Act.put, List.setIfInBounds_toArray, List.set_cons_zero, List.set_cons_succ]
      refine' wpAnyH_take (i := 6) (v := ?_) (by simp only [List.getElem?_toArray, List.getElem?_cons_succ, List.getElem?_cons_zero]; rfl) (by kernel_rfl) (by kernel_rfl) (by kernel_rfl) (by exact fun _ _ _ h => h) (Or.inl ⟨by rfl, ?_⟩) (by assumption) ?_
      rotate_left
      · intro u hSw
        have hSw2 : Mod u w0 S := hSw
        go_simp
        try with_reducible rfl
      try simp only [Act.put, List.setIfInBounds_toArray, List.set_cons_zero, List.set_cons_succ]
      refine' wpAnyH_take (i := 7) (v := ?_) (by simp only [List.getElem?_toArray, List.getElem?_cons_succ, List.getElem?_cons_zero]; rfl) (by kernel_rfl) (by kernel_rfl) (by kernel_rfl) (by exact fun _ _ _ h => h) (Or.inl ⟨by rfl, ?_⟩) (by assumption) ?_
      rotate_left
      · intro u hSw
        have hSw2 : Mod u w0 S := hSw
        go_simp
        try with_reducible rfl
      try simp only [Act.put, List.setIfInBounds_toArray, List.set_cons_zero, List.set_cons_succ]
      refine' wpAnyH_take (i := 8) (v := ?_) (by simp only [List.getElem?_toArray, List.getElem?_cons_succ, List.getElem?_cons_zero]; rfl) (by kernel_rfl) (by kernel_rfl) (by kernel_rfl) (by exact fun _ _ _ h => h) (Or.inl ⟨by rfl, ?_⟩) (by assumption) ?_
      rotate_left
      · intro u hSw
        have hSw2 : Mod u w0 S := hSw
        go_simp
        try with_reducible rfl
      try simp only [Act.put, List.setIfInBounds_toArray, List.set_cons_zero, List.set_cons_succ]
      refine' wpAnyH_take (i := 9) (v := ?_) (by simp only [List.getElem?_toArray, List.getElem?_cons_succ, List.getElem?_cons_zero]; rfl) (by kernel_rfl) (by kernel_rfl) (by kernel_rfl) (by exact fun _ _ _ h => h) (Or.inl ⟨by rfl, ?_⟩) (by assumption) ?_
      rotate_left
      · intro u hSw
        have hSw2 : Mod u w0 S := hSw
        go_simp
        try with_reducible rfl
      try simp only [Act.put, List.setIfInBounds_toArray, List.set_cons_zero, List.set_cons_succ]
      refine' wpAnyH_take (i := 10) (v := ?_) (by simp only [List.getElem?_toArray, List.getElem?_cons_succ, List.getElem?_cons_zero]; rfl) (by kernel_rfl) (by kernel_rfl) (by kernel_rfl) (by exact fun _ _ _ h => h) (Or.inl ⟨by rfl, ?_⟩) (by assumption) ?_
      rotate_left
      · intro u hSw
        have hSw2 : Mod u w0 S := hSw
        go_simp
        try with_reducible rfl
      try simp only [Act.put, List.setIfInBounds_toArray, List.set_cons_zero, List.set_cons_succ]
      refine' wpAnyH_take (i := 11) (v := ?_) (by simp only [List.getElem?_toArray, List.getElem?_cons_succ, List.getElem?_cons_zero]; rfl) (by kernel_rfl) (by kernel_rfl) (by kernel_rfl) (by exact fun _ _ _ h => h) (Or.inl ⟨by rfl, ?_⟩) (by assumption) ?_
      rotate_left
      · intro u hSw
        have hSw2 : Mod u w0 S := hSw
        go_simp
        try with_reducible rfl
      try simp only [Act.put, List.setIfInBounds_toArray, List.set_cons_zero, List.set_cons_succ]
      refine' wpAnyH_take (i := 12) (v := ?_) (by simp only [List.getElem?_toArray, List.getElem?_cons_succ, List.getElem?_cons_zero]; rfl) (by kernel_rfl) (by kernel_rfl) (by kernel_rfl) (by exact fun _ _ _ h => h) (Or.inl ⟨by rfl, ?_⟩) (by assumption) ?_
      rotate_left
      · intro u hSw
        have hSw2 : Mod u w0 S := hSw
        go_simp
        try with_reducible rfl
      try simp only [Act.put, List.setIfInBounds_toArray, List.set_cons_zero, List.set_cons_succ]
      refine' wpAnyH_take (i := 13) (by simp only [List.getElem?_toArray, List.getElem?_cons_succ, List.getElem?_cons_zero]; rfl) (by kernel_rfl) (by kernel_rfl) (by kernel_rfl) (by exact fun _ _ _ h => h) (yieldsIf_load_mid (by rfl) 98 _ rfl bn (on_ + i * 20 + 2) rfl ms _ (fun u hm => Hr.out u hm) Hu.out rfl (by rw [size_msg, Hml.out])) (by assumption) ?_
      try simp only [Act.put, List.setIfInBounds_toArray, List.set_cons_zero, List.set_cons_succ]
      refine wpAnyH_ready (rs := [14]) (by kernel_rfl) (by simp) ?_
      refine AllReadyH.cons rfl (fun K hK => ?_) AllReadyH.nil
      go_simp
      refine (msg_size ms Hm.out _ w0 S (Mod.drew (m := m1)) s).mono ?_
      rintro e w5 ⟨⟨z5, rfl⟩, m5⟩
      go_wp2_with fail
      refine hK.out _ _ m5 (fun hHeld => ?_)
      clear hK K
      try simp only [Act.put, List.setIfInBounds_toArray, List.set_cons_zero, List.set_cons_succ]
      refine' wpAnyH_take (i := 15) (v := ?_) (by simp only [List.getElem?_toArray, List.getElem?_cons_succ, List.getElem?_cons_zero]; rfl) (by kernel_rfl) (by kernel_rfl) (by kernel_rfl) (by exact fun _ _ _ h => h) (Or.inl ⟨by rfl, ?_⟩) (by assumption) ?_
      rotate_left
      · intro u hSw
        have hSw2 : Mod u w0 S := hSw
        go_simp
        try with_reducible rfl
      try simp only [Act.put, List.setIfInBounds_toArray, List.set_cons_zero, List.set_cons_succ]
      refine' wpAnyH_take (i := 16) (v := ?_) (by simp only [List.getElem?_toArray, List.getElem?_cons_succ, List.getElem?_cons_zero]; rfl) (by kernel_rfl) (by kernel_rfl) (by kernel_rfl) (by exact fun _ _ _ h => h) (Or.inl ⟨by rfl, ?_⟩) (by assumption) ?_
      rotate_left
      · intro u hSw
        have hSw2 : Mod u w0 S := hSw
        go_simp
        try with_reducible rfl
      try simp only [Act.put, List.setIfInBounds_toArray, List.set_cons_zero, List.set_cons_succ]
      refine wpAnyH_done (by kernel_rfl) ?_ _

      go_wp2_with fail
      go_roundg (n - (i + 1))
      case measure => omega
      case rel => exact ⟨i + 1, _, by omega, rfl, rfl, by go_num, m5⟩
    · have hi2 : i = n := by omega
      subst hi2
      have hii : ¬ ((i : Int) < (i : Int)) := by omega
      have hcase : (3000 : Int) < z ∨ ¬ (3000 : Int) < z := by omega
      rcases hcase with hz | hz
      · go_wp2_with fail
        go_ret
        exact ⟨⟨_, rfl, fun hb => by first | cases hb | (have := of_decide_eq_false hb; omega)⟩, m1⟩
      · go_wp2_with fail
        go_ret
        exact ⟨⟨_, rfl, fun hb => by first | cases hb | (have := of_decide_eq_false hb; omega)⟩, m1⟩
end
end Go.Proofs.YtkdiejbpleojnaaGreatDoor
