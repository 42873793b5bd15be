/- The walk of deciders' back: a contract over the small separation logic; the conditions are in the theorem. -/
import Derived.Test.YtkdiejbpleojnaaGreatDoorEqualB
import Derived.Test.YtkdiejbpleojnaaGreatDoorDecMay
import Derived.Deep.RegionHeld3
import Derived.Laws.ResultCell
namespace Go.Proofs.YtkdiejbpleojnaaGreatDoor
open Go.RowKit Go.Sl
attribute [local go_sem] cell_of cellAt_of frozen_of zero_names Kn.at0 Kn.at1 Kn.at2 Kn.at3 Kn.at4 Kn.at5 Kn.at6 Kn.at7 Kn.at8 Kn.at9 Kn.at10 Kn.at11 Kn.at12 Kn.at13 Kn.at14 Kn.at15 Kn.at16 Kn.at17 Kn.at18 Kn.at19 Kn.at20
/-- A row or a struct out of a cell, and a second result. -/
theorem results_cell_row2 {P : Program} {fn : Func} {p u : Tmp} {ty : TypeId} (h : fn.results = #[.cell p ty, .tmp u]) (tmps : Array Value) (w : World) (g : Nat) (t : TypeId) (cs : Array Value) (fr : Nat × Nat) (d : TypeDesc)
    (hp : tmps.getD p undef = .pointer (some ⟨g, 0, none⟩)) (hg : w.heap[g]? = some (.cells cs t fr))
    (hu : P.underlying ty = some d) (hd : (match d with | .struct _ | .array _ _ => true | _ => false) = true) (hi : (P.info? ty).map (·.size) = some cs.size) :
    (results fn tmps).run P w = .ok (.tuple #[.agg cs, tmps.getD u undef]) w := by
  rw [results_cell_tmp h, hp]
  simp [asAddr, run_loadVar_row w g t ty cs fr d hg hu hd hi]
theorem reads_tail {S : Asn} {b o n : Nat} {xs : List Value} (r : Reads S (some ⟨b, o, none⟩) n xs) (d : Nat) (hd : d < n) : Reads S (some ⟨b, o + d, none⟩) (n - d) (xs.drop d) :=
  ⟨fun h hh => by rw [List.length_drop, r.len h hh], fun h hh _ => by
    obtain ⟨ad, ha, hs, hc⟩ := r.cell h hh (by omega)
    injection ha with ha
    subst ha
    exact ⟨_, rfl, rfl, fun j u hu => by rw [List.getElem?_drop] at hu; rw [Nat.add_assoc]; exact hc _ u hu⟩⟩
theorem flat_drop : ∀ (l : List Nat) (j : Nat), (l.flatMap be8).drop (8 * j) = (l.drop j).flatMap be8
  | l, 0 => rfl
  | [], j + 1 => by simp
  | x :: l, j + 1 => by
    rw [List.flatMap_cons, show 8 * (j + 1) = (be8 x).length + 8 * j by simp [be8]; omega, List.drop_length_add_append, flat_drop l j]
    rfl
/-- What is known so far. -/
def _root_.Go.Sl.Kn.sofar (k : Kn) (i : Nat) : Kn := { k with chain := k.chain.take i ++ List.replicate (4 - i) 0, had := k.had.take i ++ List.replicate (4 - i) 0, lives := k.lives.take i ++ List.replicate (4 - i) 0 }
theorem sofar_step {k : Kn} (h : KnOk k) (i : Nat) (hi : i < 4) : ((((k.sofar i).cells.setIfInBounds (7 + i) (vu8 (k.c i))).setIfInBounds (11 + i) (vu64 (k.d i))).setIfInBounds (15 + i) (vu32 (k.l i))) = (k.sofar (i + 1)).cells := by
  obtain ⟨a0, a1, a2, a3, ea⟩ := four_of h.chainL
  obtain ⟨b0, b1, b2, b3, eb⟩ := four_of h.hadL
  obtain ⟨d0, d1, d2, d3, ed⟩ := four_of h.livesL
  obtain ⟨q1, q2, q3, q4, q5, q6, q7, ch, hd, lv, q11, q12⟩ := k
  simp only at ea eb ed
  subst ea eb ed
  match i, hi with
  | 0, _ => rfl
  | 1, _ => rfl
  | 2, _ => rfl
  | 3, _ => rfl
theorem sofar_all {k : Kn} (h : KnOk k) : k.sofar 4 = k := by
  unfold Kn.sofar
  rw [List.take_of_length_le (Nat.le_of_eq h.chainL), List.take_of_length_le (Nat.le_of_eq h.hadL), List.take_of_length_le (Nat.le_of_eq h.livesL)]
  simp
theorem nums_c (k : Kn) (i : Nat) (h : i < 4) : k.nums[9 + 3 * i]? = some (k.c i) ∧ k.nums[9 + 3 * i + 1]? = some (k.d i) ∧ k.nums[9 + 3 * i + 2]? = some (k.l i) := by
  match i, h with
  | 0, _ => exact ⟨rfl, rfl, rfl⟩
  | 1, _ => exact ⟨rfl, rfl, rfl⟩
  | 2, _ => exact ⟨rfl, rfl, rfl⟩
  | 3, _ => exact ⟨rfl, rfl, rfl⟩
/-- The next number. -/
theorem next_st (gB : Nat) (k : Kn) (hk : KnOk k) (bn on_ c : Nat) (hc : 168 ≤ c) (j x : Nat) (hj : j < 21) (hx : k.nums[j]? = some x) (o : Nat) (ho : j < 21 → o = on_ + 8 * j) (w w0 : World) (F : Asn) (m : Mod w w0 (Go.Sl.blk gB (.cells #[.slice (some ⟨bn, o, none⟩) (168 - 8 * j) (c - 8 * j)] 46 (0, 0)) * F)) (r : Reads F (some ⟨bn, on_, none⟩) 168 (u8s k.bytes)) :
    Calls Tryz.prog 203 #[.pointer (some ⟨gB, 0, none⟩)] w fun e w' => e = .returned (.int .u64 (x : Int)) ∧ ∃ o', (j + 1 < 21 → o' = on_ + 8 * (j + 1)) ∧ Mod w' w0 (Go.Sl.blk gB (.cells #[.slice (some ⟨bn, o', none⟩) (168 - 8 * (j + 1)) (c - 8 * (j + 1))] 46 (0, 0)) * F) := by
  obtain rfl := ho hj
  have hl := Kn.nums_length k
  have hjl : j < k.nums.length := by omega
  have hxe : k.nums[j] = x := by rw [List.getElem?_eq_getElem hjl] at hx; exact Option.some.inj hx
  have hd : (u8s k.bytes).drop (8 * j) = u8s (be8 x ++ (k.nums.drop (j + 1)).flatMap be8) := by
    unfold u8s
    rw [← List.map_drop]
    congr 1
    show (k.nums.flatMap be8).drop (8 * j) = _
    rw [flat_drop, List.drop_eq_getElem_cons hjl, List.flatMap_cons, hxe]
  have r2 := reads_tail r (8 * j) (by omega)
  rw [hd, show 168 - 8 * j = 160 - 8 * j + 8 by omega] at r2
  rw [show 168 - 8 * j = 160 - 8 * j + 8 by omega] at m
  refine (back1_spec gB x (Kn.nums_lt hk x (List.mem_of_getElem? hx)) bn (on_ + 8 * j) (160 - 8 * j) (c - 8 * j) _ (by omega) (by omega) w w0 F m r2).mono ?_
  rintro e w' ⟨rfl, o', ho', m'⟩
  refine ⟨rfl, o', fun h => by have := ho' (by omega); omega, ?_⟩
  rw [show 168 - 8 * (j + 1) = 160 - 8 * j by omega, show c - 8 * (j + 1) = c - 8 * j - 8 by omega]
  exact m'
set_option maxRecDepth 4000 in
set_option maxHeartbeats 4000000 in
theorem back_spec (k : Kn) (hk : KnOk k) (hm : KnMay k) (bn on_ c : Nat) (hc : 168 ≤ c) (w w0 : World) (S : Asn) (m : Mod w w0 S) (r : Reads S (some ⟨bn, on_, none⟩) 168 (u8s k.bytes)) : Calls Tryz.prog 135 #[.slice (some ⟨bn, on_, none⟩) 168 c] w fun e w' => e = .returned (.tuple #[.agg k.cells, .bool true]) ∧ Mod w' w0 S := by
  have Hk := Lib.hid hk
  have Hm := Lib.hid hm
  have e1 : (k.epoch : Int) % 4294967296 = (k.epoch : Int) := by have := hk.epoch; omega
  have e2 : (k.most : Int) % 4294967296 = (k.most : Int) := by have := hk.most; omega
  have e3 : (k.holder : Int) % 256 = (k.holder : Int) := by have := hk.holder; omega
  have e4 : (k.stamp : Int) % 4294967296 = (k.stamp : Int) := by have := hk.stamp; omega
  have e6 : wrap64 (k.many : Int) = (k.many : Int) := by have := hk.many; unfold wrap64; omega
  obtain ⟨ln, hln⟩ : ∃ ln, ln = if k.lost then 1 else 0 := ⟨_, rfl⟩
  have e5 : ((ln : Int) == 1) = k.lost := by rw [hln]; cases k.lost <;> rfl
  have Hln : Hid (k.nums[5]? = some ln) := by rw [hln]; exact rfl
  clear hk hm hln
  go_enter Tryz.func135, Tryz.ntmps135
  go_wp2_with fail
  refine code_gen (w0 := w0) ?_
  intro w1 m1
  generalize hgB : w.heap.size = gB at *
  have m2 : Mod w1 w0 (Go.Sl.blk (gB + 1) (.cells Kn.zero.cells 171) * (Go.Sl.blk gB (.cells #[.slice (some ⟨bn, on_, none⟩) 168 c] 46) * S)) := Mod.to (m := m1) (by rfl)
  clear m1 hgB
  refine wp_region_held_drew (S := fun u => Mod u w0 (Go.Sl.blk (gB + 1) (.cells Kn.zero.cells 171) * (Go.Sl.blk gB (.cells #[.slice (some ⟨bn, on_, none⟩) 168 c] 46) * S))) (by kernel_rfl) (Mod.drew (m := m2)) (fun hHeld => ?_)
  refine' wpAnyH_take (i := 0) (v := ?_) rfl (by kernel_rfl) (by kernel_rfl) (by kernel_rfl) (fun _ _ _ h => h) (Or.inl ⟨by rfl, ?_⟩) (by assumption) ?_
  rotate_left
  · intro u hSw
    have hSw2 : Mod u w0 _ := hSw
    go_simp
    try with_reducible rfl
  try simp only [Act.put, List.setIfInBounds_toArray]
  refine' wpAnyH_take (i := 1) (v := ?_) rfl (by kernel_rfl) (by kernel_rfl) (by kernel_rfl) (fun _ _ _ h => h) (Or.inl ⟨by rfl, ?_⟩) (by assumption) ?_
  rotate_left
  · intro u hSw
    have hSw2 : Mod u w0 _ := hSw
    go_simp
    try with_reducible rfl
  try simp only [Act.put]
  refine' wpAnyH_take (i := 2) rfl (by kernel_rfl) (by kernel_rfl) (by kernel_rfl) (fun _ _ _ h => h) (yields_load_kn (k := Kn.zero) inferInstance (by rfl) rfl rfl) (by assumption) ?_
  try simp only [Act.put]
  refine wpAnyH_ready (rs := [3]) (by kernel_rfl) (by simp) ?_
  refine AllReadyH.cons rfl (fun K hK => ?_) AllReadyH.nil
  go_simp
  refine (kbytes_spec Kn.zero zero_ok _ w0 _ (Mod.drew (m := m2))).mono ?_
  rintro e w4 ⟨B4, c4, rfl, m4⟩
  go_wp2_with fail
  refine hK.out _ _ (Mod.drop (m := m4)) (fun hHeld2 => ?_)
  clear hK K hHeld m2
  replace m4 := Mod.drop (m := m4)
  try simp only [Act.put, List.setIfInBounds_toArray, List.set_cons_zero, List.set_cons_succ]
  refine' wpAnyH_take (i := 4) (v := ?_) rfl (by kernel_rfl) (by kernel_rfl) (by kernel_rfl) (fun _ _ _ h => h) (Or.inl ⟨by rfl, ?_⟩) (by assumption) ?_
  rotate_left
  · intro u hSw
    have hSw2 : Mod u w0 _ := hSw
    go_simp
    try with_reducible rfl
  try simp only [Act.put, List.setIfInBounds_toArray]
  refine' wpAnyH_take (i := 5) (v := ?_) rfl (by kernel_rfl) (by kernel_rfl) (by kernel_rfl) (fun _ _ _ h => h) (Or.inl ⟨by rfl, ?_⟩) (by assumption) ?_
  rotate_left
  · intro u hSw
    have hSw2 : Mod u w0 _ := hSw
    go_simp
    try with_reducible rfl
  try simp only [Act.put]
  refine wpAnyH_done (by kernel_rfl) ?_ _
  go_wp2_with fail
  have m5 : Mod w4 w0 (Go.Sl.blk gB (.cells #[.slice (some ⟨bn, on_, none⟩) (168 - 8 * 0) (c - 8 * 0)] 46 (0, 0)) * (Go.Sl.blk (gB + 1) (.cells Kn.zero.cells 171) * S)) := Mod.to (m := m4) (by ac_rfl)
  clear m4 hHeld2
  refine (next_st gB k Hk.out bn on_ c hc 0 k.epoch (by decide) rfl on_ (fun _ => rfl) _ w0 _ m5 (reads_lift inferInstance r)).mono ?_
  rintro e w11 ⟨rfl, o1, ho1, n1⟩
  go_wp2_with fail
  refine (next_st gB k Hk.out bn on_ c hc 1 k.most (by decide) rfl o1 ho1 _ w0 _ n1 (reads_lift inferInstance r)).mono ?_
  rintro e w12 ⟨rfl, o2, ho2, n2⟩
  go_wp2_with fail
  refine (next_st gB k Hk.out bn on_ c hc 2 k.index (by decide) rfl o2 ho2 _ w0 _ n2 (reads_lift inferInstance r)).mono ?_
  rintro e w13 ⟨rfl, o3, ho3, n3⟩
  go_wp2_with fail
  refine (next_st gB k Hk.out bn on_ c hc 3 k.holder (by decide) rfl o3 ho3 _ w0 _ n3 (reads_lift inferInstance r)).mono ?_
  rintro e w14 ⟨rfl, o4, ho4, n4⟩
  go_wp2_with fail
  refine (next_st gB k Hk.out bn on_ c hc 4 k.stamp (by decide) rfl o4 ho4 _ w0 _ n4 (reads_lift inferInstance r)).mono ?_
  rintro e w15 ⟨rfl, o5, ho5, n5⟩
  go_wp2_with fail
  refine calls_gen (w0 := w0) ?_
  intro w16 m16
  have n6 : Mod w16 w0 (Go.Sl.blk gB (.cells #[.slice (some ⟨bn, o5, none⟩) (168 - 8 * 5) (c - 8 * 5)] 46 (0, 0)) * (Go.Sl.blk (gB + 1) (.cells ({ Kn.zero with epoch := k.epoch, most := k.most, index := k.index, holder := k.holder, stamp := k.stamp } : Kn).cells 171) * S)) := Mod.to (m := m16) (by simp only [emp_sep]; rw [sep_left_comm]; rfl)
  clear m16 n5
  refine (next_st gB k Hk.out bn on_ c hc 5 ln (by decide) Hln.out o5 ho5 _ w0 _ n6 (reads_lift inferInstance r)).mono ?_
  rintro e w17 ⟨rfl, o6, ho6, n7⟩
  go_wp2_with fail
  refine (next_st gB k Hk.out bn on_ c hc 6 k.many (by decide) rfl o6 ho6 _ w0 _ n7 (reads_lift inferInstance r)).mono ?_
  rintro e w18 ⟨rfl, o7, ho7, n8⟩
  go_wp2_with fail
  refine calls_gen (w0 := w0) ?_
  intro w19 m19
  have p0 : Mod w19 w0 (Go.Sl.blk gB (.cells #[.slice (some ⟨bn, o7, none⟩) (168 - 8 * 7) (c - 8 * 7)] 46 (0, 0)) * (Go.Sl.blk (gB + 1) (.cells ({ Kn.zero with epoch := k.epoch, most := k.most, index := k.index, holder := k.holder, stamp := k.stamp, lost := k.lost, many := k.many } : Kn).cells 171) * S)) := Mod.to (m := m19) (by simp only [emp_sep]; rw [sep_left_comm]; rfl)
  clear m19 n8 n7
  refine (next_st gB k Hk.out bn on_ c hc 7 k.g0 (by decide) rfl o7 ho7 _ w0 _ p0 (reads_lift inferInstance r)).mono ?_
  rintro e w20 ⟨rfl, o8, ho8, p1⟩
  go_wp2_with fail
  refine (next_st gB k Hk.out bn on_ c hc 8 k.g1 (by decide) rfl o8 ho8 _ w0 _ p1 (reads_lift inferInstance r)).mono ?_
  rintro e w21 ⟨rfl, o9, ho9, p2⟩
  go_wp2_with fail
  refine code_gen (w0 := w0) ?_
  intro w22 m22
  have p3 : Mod w22 w0 (Go.Sl.blk gB (.cells #[.slice (some ⟨bn, o9, none⟩) (168 - 8 * (9 + 3 * 0)) (c - 8 * (9 + 3 * 0))] 46 (0, 0)) * (Go.Sl.blk (gB + 1) (.cells (k.sofar 0).cells 171) * S)) := Mod.to (m := m22) (by simp only [emp_sep]; rw [sep_left_comm]; rfl)
  clear m22 p2 p1 p0
  go_loopg [49] 4 (fun gk iv wr => ∃ (i o : Nat), i ≤ 4 ∧ gk = 4 - i ∧ iv = .int .i64 (i : Int) ∧ (9 + 3 * i < 21 → o = on_ + 8 * (9 + 3 * i)) ∧ Mod wr w0 (Go.Sl.blk gB (.cells #[.slice (some ⟨bn, o, none⟩) (168 - 8 * (9 + 3 * i)) (c - 8 * (9 + 3 * i))] 46 (0, 0)) * (Go.Sl.blk (gB + 1) (.cells (k.sofar i).cells 171) * S)))
  case atStart => exact ⟨0, o9, by omega, rfl, rfl, ho9, p3⟩
  case round =>
    obtain ⟨i, o, hi, hgk, rfl, ho, m23⟩ := hrel
    by_cases hlt : i < 4
    · have hii : (i : Int) < 4 := by omega
      have hi0 : (0 : Int) ≤ (i : Int) := by omega
      obtain ⟨x1, x2, x3⟩ := nums_c k i hlt
      have X1 := Lib.hid x1
      have X2 := Lib.hid x2
      have X3 := Lib.hid x3
      have hcl : k.c i < 256 := getD_lt Hk.out.chain (by omega) i
      have hll : k.l i < 4294967296 := getD_lt Hk.out.lives (by omega) i
      have f1 : ((k.c i : Nat) : Int) % 256 = ((k.c i : Nat) : Int) := by omega
      have f2 : IntKind.u8.wrap ((k.c i : Nat) : Int) = ((k.c i : Nat) : Int) := by rw [IntKind.wrap_u8]; omega
      have f3 : ((k.l i : Nat) : Int) % 4294967296 = ((k.l i : Nat) : Int) := by omega
      have f4 : IntKind.u32.wrap ((k.l i : Nat) : Int) = ((k.l i : Nat) : Int) := by rw [IntKind.wrap_u32]; omega
      clear hcl hll
      have Hstep := Lib.hid (sofar_step Hk.out i hlt)
      have s7 : ∃ v, (k.sofar i).cells[7 + i]? = some v := ⟨_, (k.sofar i).atChain i hlt⟩
      have s11 : ∃ v, (k.sofar i).cells[11 + i]? = some v := ⟨_, (k.sofar i).atHad i hlt⟩
      have s15 : ∃ v, (k.sofar i).cells[15 + i]? = some v := ⟨_, (k.sofar i).atLives i hlt⟩
      clear x1 x2 x3
      revert X1 X2 X3 Hstep
      generalize k.sofar i = ks at *
      generalize k.c i = kc at *
      generalize k.d i = kd at *
      generalize k.l i = kl at *
      intro X1 X2 X3 Hstep
      obtain ⟨v7, s7⟩ := s7
      obtain ⟨v11, s11⟩ := s11
      obtain ⟨v15, s15⟩ := s15
      go_wp2_with fail
      go_region_held3 (fun _ => True) (exact True.intro)
        (first
          | (go_at_call 203; refine (next_st gB k Hk.out bn on_ c hc (9 + 3 * i + 2) kl (by omega) X3.out oq2 hq2 _ w0 _ q2 (reads_lift inferInstance r)).mono ?_; rintro e wq3 ⟨rfl, oq3, hq3, q3⟩)
          | (go_at_call 203; refine (next_st gB k Hk.out bn on_ c hc (9 + 3 * i + 1) kd (by omega) X2.out oq1 hq1 _ w0 _ q1 (reads_lift inferInstance r)).mono ?_; rintro e wq2 ⟨rfl, oq2, hq2, q2⟩)
          | (go_at_call 203; refine (next_st gB k Hk.out bn on_ c hc (9 + 3 * i) kc (by omega) X1.out o ho _ w0 _ (Mod.drew (m := m23)) (reads_lift inferInstance r)).mono ?_; rintro e wq1 ⟨rfl, oq1, hq1, q1⟩))
      rw [show 9 + 3 * i + 2 + 1 = 9 + 3 * (i + 1) by omega] at q3 hq3
      clear q1 q2 m23
      go_wp2_with fail
      go_roundg (4 - (i + 1))
      case measure => omega
      case rel => exact ⟨i + 1, oq3, by omega, rfl, by go_num, hq3, Mod.to (m := inferInstance) (by rw [← Hstep.out]; simp only [emp_sep]; rw [sep_left_comm])⟩
    · have hi4 : i = 4 := by omega
      subst hi4
      rw [sofar_all Hk.out] at m23
      go_wp2_with fail
      obtain ⟨SS, hSS, mSS⟩ : ∃ SS, SS = Go.Sl.blk gB (.cells #[.slice (some ⟨bn, o, none⟩) (168 - 8 * (9 + 3 * 4)) (c - 8 * (9 + 3 * 4))] 46 (0, 0)) * (Go.Sl.blk (gB + 1) (.cells k.cells 171) * S) ∧ Mod wr w0 SS := ⟨_, rfl, m23⟩
      have hkk : HasKn SS (gB + 1) 0 k := by rw [hSS]; infer_instance
      have rSS : Reads SS (some ⟨bn, on_, none⟩) 168 (u8s k.bytes) := by rw [hSS]; exact reads_lift inferInstance r
      have HSS := Lib.hid hSS
      clear hSS m23
      refine wp_region_held_drew (S := fun u => Mod u w0 SS) (by kernel_rfl) (Mod.drew (m := mSS)) (fun hHeld => ?_)
      refine' wpAnyH_take (i := 0) rfl (by kernel_rfl) (by kernel_rfl) (by kernel_rfl) (fun _ _ _ h => h) (yields_load_kn hkk (by rfl) rfl rfl) (by assumption) ?_
      try simp only [Act.put, List.setIfInBounds_toArray]
      refine' wpAnyH_take (i := 1) rfl (by kernel_rfl) (by kernel_rfl) (by kernel_rfl) (fun _ _ _ h => h) (yields_load_kn hkk (by rfl) rfl rfl) (by assumption) ?_
      try simp only [Act.put]
      refine wpAnyH_ready (rs := [2]) (by kernel_rfl) (by simp) ?_
      refine AllReadyH.cons rfl (fun K hK => ?_) AllReadyH.nil
      go_simp
      refine (kmay_spec k Hk.out Hm.out _ w0 _ (Mod.drew (m := mSS))).mono ?_
      rintro e w30 ⟨rfl, q30⟩
      go_wp2_with fail
      refine hK.out _ _ (q30) (fun hHeld => ?_)
      clear hK K
      try simp only [Act.put, List.setIfInBounds_toArray, List.set_cons_zero, List.set_cons_succ]
      refine' wpAnyH_take (i := 3) (v := ?_) rfl (by kernel_rfl) (by kernel_rfl) (by kernel_rfl) (fun _ _ _ h => h) (Or.inl ⟨by rfl, ?_⟩) (by assumption) ?_
      rotate_left
      · intro u hSw
        have hSw2 : Mod u w0 SS := hSw
        go_simp
        try with_reducible rfl
      try simp only [Act.put, List.setIfInBounds_toArray]
      refine' wpAnyH_take (i := 4) rfl (by kernel_rfl) (by kernel_rfl) (by kernel_rfl) (fun _ _ _ h => h) (yields_load_kn hkk (by rfl) rfl rfl) (by assumption) ?_
      try simp only [Act.put]
      refine' wpAnyH_take (i := 6) (v := ?_) rfl (by kernel_rfl) (by kernel_rfl) (by kernel_rfl) (fun _ _ _ h => h) (Or.inl ⟨by rfl, ?_⟩) (by assumption) ?_
      rotate_left
      · intro u hSw
        have hSw2 : Mod u w0 SS := hSw
        go_simp
        try with_reducible rfl
      try simp only [Act.put]
      refine wpAnyH_ready (rs := [5]) (by kernel_rfl) (by simp) ?_
      refine AllReadyH.cons rfl (fun K hK => ?_) AllReadyH.nil
      go_simp
      refine (kbytes_spec k Hk.out _ w0 _ q30).mono ?_
      rintro e w31 ⟨B31, c31, rfl, q31⟩
      go_wp2_with fail
      refine hK.out _ _ (Mod.drop (m := q31)) (fun hHeld => ?_)
      clear hK K
      try simp only [Act.put, List.setIfInBounds_toArray, List.set_cons_zero, List.set_cons_succ]
      refine wpAnyH_ready (rs := [7]) (by kernel_rfl) (by simp) ?_
      refine AllReadyH.cons rfl (fun K hK => ?_) AllReadyH.nil
      go_simp
      refine (equal_same B31 168 c31 (some ⟨bn, on_, none⟩) c k.bytes _ w0 _ q31 (reads_lift inferInstance (Reads.row 5 B31 168 c31 (u8s k.bytes))) (reads_lift inferInstance rSS) (by decide)).mono ?_
      rintro e w32 ⟨rfl, q32⟩
      go_wp2_with fail
      refine hK.out _ _ (Mod.drop (m := q32)) (fun hHeld => ?_)
      clear hK K
      try simp only [Act.put, List.setIfInBounds_toArray, List.set_cons_zero, List.set_cons_succ]
      refine' wpAnyH_take (i := 8) (v := ?_) rfl (by kernel_rfl) (by kernel_rfl) (by kernel_rfl) (fun _ _ _ h => h) (Or.inl ⟨by rfl, ?_⟩) (by assumption) ?_
      rotate_left
      · intro u hSw
        have hSw2 : Mod u w0 SS := hSw
        go_simp
        try with_reducible rfl
      try simp only [Act.put, List.setIfInBounds_toArray]
      refine wpAnyH_ready (rs := [9]) (by kernel_rfl) (by simp) ?_
      refine AllReadyH.cons rfl (fun K hK => ?_) AllReadyH.nil
      have q33 : Mod w32 w0 (Go.Sl.blk (gB + 1) (.cells k.cells 171) * (Go.Sl.blk gB (.cells #[.slice (some ⟨bn, o, none⟩) (168 - 8 * (9 + 3 * 4)) (c - 8 * (9 + 3 * 4))] 46 (0, 0)) * S)) := Mod.to (m := Mod.drop (m := q32)) (by rw [HSS.out]; exact sep_left_comm _ _ _)
      refine wp_store_kn0 (w0 := w0) (k := k) rfl rfl rfl rfl ?_
      intro w34 q34
      simp only [List.getElem_toArray, List.getElem_cons_succ, List.getElem_cons_zero, Act.put, List.set_cons_zero, List.set_cons_succ]
      refine hK.out _ _ (Mod.to (m := q34) (by rw [HSS.out]; simp only [emp_sep]; exact sep_left_comm _ _ _)) (fun hHeld => ?_)
      clear hK K
      try simp only [Act.put, List.setIfInBounds_toArray, List.set_cons_zero, List.set_cons_succ]
      refine' wpAnyH_take (i := 10) (v := ?_) rfl (by kernel_rfl) (by kernel_rfl) (by kernel_rfl) (fun _ _ _ h => h) (Or.inl ⟨by rfl, ?_⟩) (by assumption) ?_
      rotate_left
      · intro u hSw
        have hSw2 : Mod u w0 SS := hSw
        go_simp
        try with_reducible rfl
      simp only [List.getElem_toArray, List.getElem_cons_succ, List.getElem_cons_zero, Act.put, List.setIfInBounds_toArray, List.set_cons_zero, List.set_cons_succ]
      refine wpAnyH_done (by kernel_rfl) ?_ _
      go_wp2_with fail
      obtain ⟨fs, hu⟩ := und_knows
      refine bodyPost_ret (results_cell_row2 rfl _ _ (gB + 1) 171 k.cells (0, 0) _ rfl (Mod.heap (m := q34)) hu rfl (by rw [size_knows]; rfl)) rfl ?_
      exact ⟨rfl, Mod.sub S (m := q34)⟩
end Go.Proofs.YtkdiejbpleojnaaGreatDoor
