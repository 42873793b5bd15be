/- The walks of the decider's Reset, Lost and of Want where all is lost: contracts over the small separation logic; the conditions are in each theorem. -/
import Derived.Test.YtkdiejbpleojnaaGreatDoorDecSG
import Derived.Deep.RegionHeld3
namespace Go.Sl
def Dp.reset (s : Dp) : Dp := { s with kn := { Kn.zero with epoch := s.kn.epoch, most := s.kn.most } }
end Go.Sl
namespace Go.Proofs.YtkdiejbpleojnaaGreatDoor
open Go.RowKit Go.Sl
attribute [local go_sem] cell_of cellAt_of frozen_of zero_names DecV.at0 DecV.at1 DecV.at2 DecV.at3 DecV.at4 DecV.at5 DecV.at6 DecV.at7 DecV.at8 DecV.at9 DecV.at10 DecV.at11 DecV.at12 DecV.at13 DecV.at14 DecV.at15 DecV.at16 DecV.at17 DecV.at18 DecV.at19 DecV.at20 DecV.at21 DecV.at22 DecV.at23 DecV.at24 DecV.at25 DecV.at26 DecV.at27 DecV.at28 DecV.at29 DecV.at30 DecV.at31
theorem reset_kn {k : Kn} (h : KnOk k) : KnOk { Kn.zero with epoch := k.epoch, most := k.most } := ⟨h.epoch, h.most, zero_ok.index, zero_ok.holder, zero_ok.stamp, zero_ok.many, rfl, rfl, rfl, zero_ok.chain, zero_ok.had, zero_ok.lives, zero_ok.g0, zero_ok.g1⟩
theorem reset_ok {s : Dp} (h : DpOk s) (hs : s.seals = false) : DpOk s.reset := ⟨reset_kn h.kn, ⟨rfl, rfl, List.nodup_nil, by intro x hx; cases hx⟩, start_c4, (show 0 ≤ 4 by decide), h.jn, (fun e => by rw [show s.reset.seals = s.seals from rfl, hs] at e; cases e), h.an, h.le⟩
set_option maxHeartbeats 1000000 in
theorem lost_st (x p : Nat) (s : Dp) (w w0 : World) (F : Asn) (m : DecSt x p s F w0 w) : Calls Tryz.prog 59 #[ptr x] w fun e w' => e = .returned (.bool s.kn.lost) ∧ DecSt x p s F w0 w' := by
  obtain ⟨v, D, g, j, ks, b, G, hat, m⟩ := m
  obtain rfl := hat.pd
  have Hat := Lib.hid hat
  clear hat
  go_enter Tryz.func59, Tryz.ntmps59
  go_wp2_with (go_at_call 124; refine (dthere_spec x v _ w0 _ m).mono ?_; rintro e w1 ⟨rfl, m1⟩)
  go_ret
  exact ⟨by rw [← Hat.out.kn]; rfl, v, D, g, j, ks, b, G, Hat.out, inferInstance⟩
set_option maxHeartbeats 1000000 in
theorem want_lost (x p : Nat) (s : Dp) (hl : s.kn.lost = true) (A : Option Addr) (n c : Nat) (w w0 : World) (F : Asn) (m : DecSt x p s F w0 w) : Calls Tryz.prog 50 #[ptr x, .slice A n c] w fun e w' => e = .returned (.tuple #[.slice none 0 0, .int .i64 9]) ∧ DecSt x p s F w0 w' := by
  obtain ⟨v, D, g, j, ks, b, G, hat, m⟩ := m
  obtain rfl := hat.pd
  have hlv : v.kn.lost = true := by rw [hat.kn]; exact hl
  have Hat := Lib.hid hat
  clear hat hl
  go_enter Tryz.func50, Tryz.ntmps50
  go_wp2_with (go_at_call 124; refine (dthere_spec x v _ w0 _ m).mono ?_; rintro e w1 ⟨rfl, m1⟩)
  go_ret2
  exact ⟨rfl, v, D, g, j, ks, b, G, Hat.out, inferInstance⟩
set_option maxRecDepth 4000 in
set_option maxHeartbeats 1000000 in
theorem reset_no (x p : Nat) (s : Dp) (hl : s.kn.lost = false) (w w0 : World) (F : Asn) (m : DecSt x p s F w0 w) : Calls Tryz.prog 53 #[ptr x] w fun e w' => e = .returned (.int .i64 9) ∧ DecSt x p s F w0 w' := by
  obtain ⟨v, D, g, j, ks, b, G, hat, m⟩ := m
  obtain rfl := hat.pd
  have hlv : v.kn.lost = false := by rw [hat.kn]; exact hl
  have Hat := Lib.hid hat
  clear hat hl
  go_enter Tryz.func53, Tryz.ntmps53
  go_wp2_with (go_at_call 124; refine (dthere_spec x v _ w0 _ m).mono ?_; rintro e w1 ⟨rfl, m1⟩)
  go_ret
  exact ⟨rfl, v, D, g, j, ks, b, G, Hat.out, inferInstance⟩
/-- What is known, stored whole into a variable of its own, at one operation. -/
theorem wp_store_kn0 {o : Oper} {a : Act} {w w0 : World} {S F : Asn} {K : Act → World → Prop} {Q : Exit → Act → World → Prop} {g : Nat} {cs : Array Value} {k : Kn} [m : Mod w w0 S] {x y : Operand} (ho : o.op = .store 171 x y) (hx : a.eval x = .pointer (some ⟨g, 0, none⟩)) (hy : a.eval y = .agg k.cells)
    [t : Take S (blk g) (.cells cs 171 (0, 0)) F] (hs : cs.size = 21) (h : ∀ w', Mod w' w0 (blk g (.cells k.cells 171 (0, 0)) * F) → K (a.put o.dst undef) w') : o.wp Tryz.prog a w K Q := by
  have hh : Has S g (.cells cs 171 (0, 0)) := by rw [t.eq]; infer_instance
  have m1 : Mod w w0 (blk g (.cells cs 171 (0, 0)) * F) := by rw [← t.eq]; exact m
  refine wp_store_mid 171 x y ho g 0 k.cells hx hy (fun j hj => ?_) (by rw [size_knows]; rfl) (one_kn k) (h _ ?_)
  · have hc := @cell_of w w0 S g j cs 171 (0, 0) m hh
    have hf := @frozen_of w w0 S g j cs 171 m hh
    rw [Nat.zero_add, hc, hf]
    have hj2 : j < 21 := hj
    exact ⟨by rw [Array.getElem?_eq_getElem (by omega)]; rfl, rfl⟩
  · have := mod_setMany k.cells.toList 0 w cs m1
    rw [setMany_all cs k.cells (by rw [hs]; rfl)] at this
    exact this
set_option maxRecDepth 4000 in
set_option maxHeartbeats 1000000 in
theorem reset_yes (x p : Nat) (s : Dp) (hs : DpOk s) (hl : s.kn.lost = true) (w w0 : World) (F : Asn) (m : DecSt x p s F w0 w) : Calls Tryz.prog 53 #[ptr x] w fun e w' => e = .returned (.int .i64 0) ∧ DecSt x p s.reset F w0 w' := by
  obtain ⟨v, D, g, j, ks, b, G, hat, m⟩ := m
  obtain rfl := hat.pd
  have hlv : v.kn.lost = true := by rw [hat.kn]; exact hl
  have Hat := Lib.hid hat
  have Hs := Lib.hid hs
  clear hat hl hs
  go_enter Tryz.func53, Tryz.ntmps53
  go_wp2_with (go_at_call 124; refine (dthere_spec x v _ w0 _ m).mono ?_; rintro e w1 ⟨rfl, m1⟩)
  refine wp_region_held_drew (S := (fun u => u.cell? ⟨x, 4, none⟩ = some (vu32 v.kn.epoch) ∧ u.cell? ⟨x, 5, none⟩ = some (vu32 v.kn.most))) (by kernel_rfl) (by refine ⟨?_, ?_⟩ <;> (rw [cell_of]; rfl)) (fun hHeld => ?_)
  refine' wpAnyH_take (i := 0) (v := ?_) (by simp only [List.getElem?_toArray, List.getElem?_cons_zero]; rfl) (by kernel_rfl) (by kernel_rfl) (by kernel_rfl) (by exact fun _ _ _ h => h) (Or.inl ⟨by rfl, ?_⟩) (by assumption) ?_
  rotate_left
  · intro u hSw
    try dsimp only at hSw
    go_simp
    try with_reducible rfl
  try simp only [Act.put, List.setIfInBounds_toArray, List.set_cons_zero, List.set_cons_succ]
  refine' wpAnyH_take (i := 1) (v := ?_) (by simp only [List.getElem?_toArray, List.getElem?_cons_succ, List.getElem?_cons_zero]; rfl) (by kernel_rfl) (by kernel_rfl) (by kernel_rfl) (by exact fun _ _ _ h => h) (Or.inl ⟨by rfl, ?_⟩) (by assumption) ?_
  rotate_left
  · intro u hSw
    try dsimp only at hSw
    go_simp
    try with_reducible rfl
  try simp only [Act.put, List.setIfInBounds_toArray, List.set_cons_zero, List.set_cons_succ]
  refine' wpAnyH_take (i := 2) (v := ?_) (by simp only [List.getElem?_toArray, List.getElem?_cons_succ, List.getElem?_cons_zero]; rfl) (by kernel_rfl) (by kernel_rfl) (by kernel_rfl) (by exact fun _ _ _ h => h) (Or.inl ⟨by rfl, ?_⟩) (by assumption) ?_
  rotate_left
  · intro u hSw
    try dsimp only at hSw
    go_simp
    try with_reducible rfl
  try simp only [Act.put, List.setIfInBounds_toArray, List.set_cons_zero, List.set_cons_succ]
  refine' wpAnyH_take (i := 3) (v := ?_) (by simp only [List.getElem?_toArray, List.getElem?_cons_succ, List.getElem?_cons_zero]; rfl) (by kernel_rfl) (by kernel_rfl) (by kernel_rfl) (by exact fun _ _ _ h => h) (Or.inl ⟨by rfl, ?_⟩) (by assumption) ?_
  rotate_left
  · intro u hSw
    try dsimp only at hSw
    go_simp
    try with_reducible rfl
  try simp only [Act.put, List.setIfInBounds_toArray, List.set_cons_zero, List.set_cons_succ]
  refine' wpAnyH_take (i := 4) (v := ?_) (by simp only [List.getElem?_toArray, List.getElem?_cons_succ, List.getElem?_cons_zero]; rfl) (by kernel_rfl) (by kernel_rfl) (by kernel_rfl) (by exact fun _ _ _ h => h) (Or.inl ⟨by rfl, ?_⟩) (by assumption) ?_
  rotate_left
  · intro u hSw
    try dsimp only at hSw
    go_simp
    try with_reducible rfl
  try simp only [Act.put, List.setIfInBounds_toArray, List.set_cons_zero, List.set_cons_succ]
  refine' wpAnyH_take (i := 5) (v := ?_) (by simp only [List.getElem?_toArray, List.getElem?_cons_succ, List.getElem?_cons_zero]; rfl) (by kernel_rfl) (by kernel_rfl) (by kernel_rfl) (by exact fun _ _ _ h => h) (Or.inl ⟨by rfl, ?_⟩) (by assumption) ?_
  rotate_left
  · intro u hSw
    try dsimp only at hSw
    go_simp
    try with_reducible rfl
  try simp only [Act.put, List.setIfInBounds_toArray, List.set_cons_zero, List.set_cons_succ]
  refine' wpAnyH_take (i := 6) (v := ?_) (by simp only [List.getElem?_toArray, List.getElem?_cons_succ, List.getElem?_cons_zero]; rfl) (by kernel_rfl) (by kernel_rfl) (by kernel_rfl) (by exact fun _ _ _ h => h) (Or.inl ⟨by rfl, ?_⟩) (by assumption) ?_
  rotate_left
  · intro u hSw
    try dsimp only at hSw
    go_simp
    try with_reducible rfl
  try simp only [Act.put, List.setIfInBounds_toArray, List.set_cons_zero, List.set_cons_succ]
  refine' wpAnyH_take (i := 7) (v := ?_) (by simp only [List.getElem?_toArray, List.getElem?_cons_succ, List.getElem?_cons_zero]; rfl) (by kernel_rfl) (by kernel_rfl) (by kernel_rfl) (by exact fun _ _ _ h => h) (Or.inl ⟨by rfl, ?_⟩) (by assumption) ?_
  rotate_left
  · intro u hSw
    try dsimp only at hSw
    go_simp
    try with_reducible rfl
  try simp only [Act.put, List.setIfInBounds_toArray, List.set_cons_zero, List.set_cons_succ]
  refine' wpAnyH_take (i := 8) (v := ?_) (by simp only [List.getElem?_toArray, List.getElem?_cons_succ, List.getElem?_cons_zero]; rfl) (by kernel_rfl) (by kernel_rfl) (by kernel_rfl) (by exact fun _ _ _ h => h) (Or.inl ⟨by rfl, ?_⟩) (by assumption) ?_
  rotate_left
  · intro u hSw
    try dsimp only at hSw
    go_simp
    try with_reducible rfl
  try simp only [Act.put, List.setIfInBounds_toArray, List.set_cons_zero, List.set_cons_succ]
  refine' wpAnyH_take (i := 9) (v := ?_) (by simp only [List.getElem?_toArray, List.getElem?_cons_succ, List.getElem?_cons_zero]; rfl) (by kernel_rfl) (by kernel_rfl) (by kernel_rfl) (by exact fun _ _ _ h => h) (Or.inl ⟨by rfl, ?_⟩) (by assumption) ?_
  rotate_left
  · intro u hSw
    try dsimp only at hSw
    go_simp
    try with_reducible rfl
  try simp only [Act.put, List.setIfInBounds_toArray, List.set_cons_zero, List.set_cons_succ]
  refine' wpAnyH_take (i := 10) (v := ?_) (by simp only [List.getElem?_toArray, List.getElem?_cons_succ, List.getElem?_cons_zero]; rfl) (by kernel_rfl) (by kernel_rfl) (by kernel_rfl) (by exact fun _ _ _ h => h) (Or.inl ⟨by rfl, ?_⟩) (by assumption) ?_
  rotate_left
  · intro u hSw
    try dsimp only at hSw
    go_simp
    try with_reducible rfl
  try simp only [Act.put, List.setIfInBounds_toArray, List.set_cons_zero, List.set_cons_succ]
  refine wpAnyH_ready (rs := [11]) (by kernel_rfl) (by simp) ?_
  refine AllReadyH.cons rfl (fun K hK => ?_) AllReadyH.nil
  go_simp
  go_wp2_with fail
  refine hK.out _ _ ?_ (fun hHeld => ?_)
  · refine ⟨?_, ?_⟩ <;> (rw [cell_of]; rfl)
  clear hK K
  try simp only [Act.put, List.setIfInBounds_toArray, List.set_cons_zero, List.set_cons_succ]
  refine wpAnyH_ready (rs := [12]) (by kernel_rfl) (by simp) ?_
  refine AllReadyH.cons rfl (fun K hK => ?_) AllReadyH.nil
  refine wp_store_kn0 (w0 := w0) (k := { Kn.zero with epoch := v.kn.epoch, most := v.kn.most }) rfl rfl rfl rfl ?_
  intro w3 m3
  simp only [List.getElem_toArray, List.getElem_cons_succ, List.getElem_cons_zero, Act.put]
  refine hK.out _ _ ?_ (fun hHeld => ?_)
  · refine ⟨?_, ?_⟩ <;> (rw [cell_of]; rfl)
  clear hK K
  try simp only [Act.put, List.setIfInBounds_toArray, List.set_cons_zero, List.set_cons_succ]
  refine wpAnyH_done (by kernel_rfl) ?_ _
  rw [emp_sep] at m3
  go_wp2_with first | (refine wpList_load_kn rfl rfl rfl ?_)
  refine (keeps_spec x j v D g ks b { Kn.zero with epoch := v.kn.epoch, most := v.kn.most } (by rw [Hat.out.kn]; exact ⟨reset_kn Hs.out.kn, may_of (l := []) ⟨rfl, rfl, List.nodup_nil, by intro x hx; cases hx⟩ (Nat.zero_le _) Hs.out.le⟩) _ w0 _ Hat.out.pj Hat.out.ok (Mod.pull3 (decB x v) (diskA v.pd D) (jourA j v.pd v.name b.length))).mono ?_
  rintro e w5 ⟨rfl, D2, g2, j2, ks2, b2, nm, nl, ok2, m5⟩
  have Hok2 := Lib.hid ok2
  clear ok2
  go_wp2_with fail
  go_ret
  have hA := Hat.out
  exact ⟨rfl, { v with pj := some j2, name := nm, lines := nl, kn := { Kn.zero with epoch := v.kn.epoch, most := v.kn.most } }, D2, g2, j2, ks2, b2, G, ⟨rfl, rfl, by show _ = Dp.kn (Dp.reset s); rw [hA.kn]; rfl, hA.seals, hA.jn, hA.join, hA.ans, Hok2.out⟩, Mod.dropped (Go.Sl.blk w1.heap.size (.cells ({ Kn.zero with epoch := v.kn.epoch, most := v.kn.most } : Kn).cells 171)) (m := m5)⟩
end Go.Proofs.YtkdiejbpleojnaaGreatDoor
