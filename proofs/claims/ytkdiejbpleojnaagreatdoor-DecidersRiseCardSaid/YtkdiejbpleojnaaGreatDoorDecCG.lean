/- The walk of the decider's Came: contracts over the small separation logic; the conditions are in each theorem.
The walk of the decider's Came where a disk is ready: a contract over the small separation logic; the conditions are in the theorem.
The walk of the decider's Came where a node has sealed: contracts over the small separation logic; the conditions are in each theorem.
The walk of the decider's Came where a node has sealed and its answer is held: a contract over the small separation logic; the conditions are in the theorem. -/
import Derived.Test.YtkdiejbpleojnaaGreatDoorDecMG
import Derived.Deep.RegionHeld3
import Derived.Deep.QuietTactic
import Derived.BigQuiet
namespace Go.Proofs.YtkdiejbpleojnaaGreatDoor
open Go.RowKit Go.Sl
attribute [local go_sem] cell_of frozen_of zero_names DecV.at0 DecV.at1 DecV.at2 DecV.at3 DecV.at4 DecV.at5 DecV.at6 DecV.at7 DecV.at8 DecV.at9 DecV.at10 DecV.at11 DecV.at12 DecV.at13 DecV.at14 DecV.at15 DecV.at16 DecV.at17 DecV.at18 DecV.at19 DecV.at20 DecV.at21 DecV.at22 DecV.at23 DecV.at24 DecV.at25 DecV.at26 DecV.at27 DecV.at28 DecV.at29 DecV.at30 DecV.at31 MsgV.at0 MsgV.at1 MsgV.at2 MsgV.at3 MsgV.at4 MsgV.at5 MsgV.at6 MsgV.at7 MsgV.at8 MsgV.at9 Kn.at0 Kn.at1 Kn.at2 Kn.at3 Kn.at4 Kn.at5 Kn.at6
set_option maxRecDepth 4000 in
set_option maxHeartbeats 4000000 in
/-- A message that is none of a node's. -/
theorem came_arg (x : Nat) (v : DecV) (y : MsgV) (w w0 : World) (S : Asn) (m : Mod w w0 S) [Has S x (.cells v.cells 175 (0, 0))] (h : ¬ ((y.say = 6 ∨ y.say = 9) ∧ y.to = 0 ∧ 1 ≤ y.from_ ∧ y.from_ ≤ 4)) :
    Calls Tryz.prog 55 #[ptr x, .agg y.cells] w fun e w' => e = .returned (.tuple #[.slice none 0 0, .int .i64 1]) ∧ Mod w' w0 S := by
  have hb : (((y.say : Int) != 6) = true ∧ ((y.say : Int) != 9) = true) ∨ ((((y.say : Int) != 6) = false ∨ ((y.say : Int) != 6) = true ∧ ((y.say : Int) != 9) = false) ∧ (((y.to : Int) != 0) = true ∨ ((y.to : Int) != 0) = false ∧ (decide ((y.from_ : Int) < 1) = true ∨ decide ((y.from_ : Int) < 1) = false ∧ decide ((4 : Int) < (y.from_ : Int)) = true))) := by
    by_cases h1 : y.say = 6 <;> by_cases h2 : y.say = 9 <;> by_cases h3 : y.to = 0 <;> by_cases h4 : y.from_ < 1 <;> by_cases h5 : 4 < y.from_ <;> simp_all <;> omega
  clear h
  rcases hb with ⟨t1, t2⟩ | ⟨t1 | ⟨t1, t2⟩, t3 | ⟨t3, t4 | ⟨t4, t5⟩⟩⟩
  all_goals
    go_enter Tryz.func55, Tryz.ntmps55
    go_wp2_with (go_at_call 124; refine (dthere_spec x v _ w0 _ inferInstance).mono ?_; rintro e w1 ⟨rfl, m1⟩)
  all_goals
    go_ret2
    exact ⟨rfl, Mod.drop (m := m1)⟩
set_option maxRecDepth 4000 in
set_option maxHeartbeats 4000000 in
/-- One that tells that a disk is ready, of no moment. -/
theorem came_ready_no (x : Nat) (v : DecV) (y : MsgV) (w w0 : World) (S : Asn) (hs : y.say = 9) (ht : y.to = 0) (h1 : 1 ≤ y.from_) (h4 : y.from_ ≤ 4) (hk : KnOk v.kn)
    (m : Mod w w0 S) [Has S x (.cells v.cells 175 (0, 0))] (h : v.seals = true ∨ v.kn.many = 0 ∨ y.epoch ≠ v.kn.epoch ∨ (0 < v.kn.many ∧ y.from_ ≠ v.kn.c (v.kn.many - 1)) ∨ y.num = 0) :
    Calls Tryz.prog 55 #[ptr x, .agg y.cells] w fun e w' => e = .returned (.tuple #[.slice none 0 0, .int .i64 0]) ∧ Mod w' w0 S := by
  have t0 : ((y.say : Int) == 6) = false := by rw [hs]; rfl
  have t1 : ((y.say : Int) != 6) = true := by rw [hs]; rfl
  have t2 : ((y.say : Int) != 9) = false := by rw [hs]; rfl
  have t3 : ((y.to : Int) != 0) = false := by rw [ht]; rfl
  have t4 : decide ((y.from_ : Int) < 1) = false := by rw [decide_eq_false_iff_not]; omega
  have t5 : decide ((4 : Int) < (y.from_ : Int)) = false := by rw [decide_eq_false_iff_not]; omega
  have hm4 := hk.many
  have hmi : (v.kn.many : Int) ≤ 4 := by omega
  have hcase : v.seals = true ∨ (v.seals = false ∧ ((v.kn.many : Int) == 0) = true) ∨ (v.seals = false ∧ ((v.kn.many : Int) == 0) = false ∧ ((y.epoch : Int) != (v.kn.epoch : Int)) = true) ∨
      (∃ q, v.kn.many = q + 1 ∧ v.seals = false ∧ ((q : Int) + 1 == 0) = false ∧ ((y.epoch : Int) != (v.kn.epoch : Int)) = false ∧ (((y.from_ : Int) != (v.kn.c q : Int)) = true ∨ ((y.from_ : Int) != (v.kn.c q : Int)) = false ∧ ((y.num : Int) == 0) = true)) := by
    cases hsl : v.seals
    · rw [hsl] at h
      by_cases hz : v.kn.many = 0
      · exact .inr (.inl ⟨rfl, by rw [beq_iff_eq]; omega⟩)
      · by_cases he : y.epoch = v.kn.epoch
        · refine .inr (.inr (.inr ⟨v.kn.many - 1, by omega, rfl, beq_eq_false_iff_ne.2 (by omega), by simp [he], ?_⟩))
          by_cases hf : y.from_ = v.kn.c (v.kn.many - 1)
          · right
            rcases h with h | h | h | ⟨_, h⟩ | h
            · cases h
            · omega
            · exact absurd he h
            · exact absurd hf h
            · exact ⟨by simp [hf], by simp [h]⟩
          · left; rw [bne_iff_ne]; omega
        · exact .inr (.inr (.inl ⟨rfl, beq_eq_false_iff_ne.2 (by omega), by rw [bne_iff_ne]; omega⟩))
    · exact .inl rfl
  clear hs ht h
  rcases hcase with b1 | ⟨b1, b2⟩ | ⟨b1, b2, b3⟩ | ⟨q, hq, b1, b2, b3, hr⟩
  rotate_left 3
  · have hcell := v.atC q (by omega)
    have hqi : (v.kn.many : Int) = (q : Int) + 1 := by omega
    have hq4 : (q : Int) < 4 := by omega
    have hq0 : (0 : Int) ≤ (q : Int) := by omega
    generalize v.kn.c q = cq at *
    clear hq
    rcases hr with b4 | ⟨b4, b5⟩
    all_goals
      go_enter Tryz.func55, Tryz.ntmps55
      go_wp2_with (go_at_call 124; refine (dthere_spec x v _ w0 _ inferInstance).mono ?_; rintro e w1 ⟨rfl, m1⟩)
      go_quiet (fail)
      go_wp2_with fail
      go_ret2
      exact ⟨rfl, Mod.drop (m := (inferInstance : Mod _ w0 _))⟩
  all_goals
    go_enter Tryz.func55, Tryz.ntmps55
    go_wp2_with (go_at_call 124; refine (dthere_spec x v _ w0 _ inferInstance).mono ?_; rintro e w1 ⟨rfl, m1⟩)
    go_quiet (fail)
    go_wp2_with fail
    go_ret2
    exact ⟨rfl, Mod.drop (m := (inferInstance : Mod _ w0 _))⟩
end Go.Proofs.YtkdiejbpleojnaaGreatDoor
namespace Go.Proofs.YtkdiejbpleojnaaGreatDoor
open Go.RowKit Go.Sl
attribute [local go_sem] cell_of frozen_of zero_names DecV.at0 DecV.at1 DecV.at2 DecV.at3 DecV.at4 DecV.at5 DecV.at6 DecV.at7 DecV.at8 DecV.at9 DecV.at10 DecV.at11 DecV.at12 DecV.at13 DecV.at14 DecV.at15 DecV.at16 DecV.at17 DecV.at18 DecV.at19 DecV.at20 DecV.at21 DecV.at22 DecV.at23 DecV.at24 DecV.at25 DecV.at26 DecV.at27 DecV.at28 DecV.at29 DecV.at30 DecV.at31 MsgV.at0 MsgV.at1 MsgV.at2 MsgV.at3 MsgV.at4 MsgV.at5 MsgV.at6 MsgV.at7 MsgV.at8 MsgV.at9 Kn.at0 Kn.at1 Kn.at2 Kn.at3 Kn.at4 Kn.at5 Kn.at6
def _root_.Go.Sl.Kn.held (k : Kn) (n s : Nat) : Kn := { k with holder := n, stamp := s }
instance HasKn.held (g : Nat) (k : Kn) (n s : Nat) (t : TypeId) (fr : Nat × Nat) : HasKn (Go.Sl.blk g (.cells ((k.cells.setIfInBounds 3 (vu8 n)).setIfInBounds 4 (vu32 s)) t fr)) g 0 (k.held n s) :=
  ⟨fun h hh => ⟨(k.held n s).cells, t, fr, by rw [hh]; simp only [Hp.one, if_pos]; rfl, fun j v hv => by rwa [Nat.zero_add]⟩⟩
theorem held_ok {k : Kn} (h : KnOk k) {n s : Nat} (hn : n ≤ 4) (hs : s < 4294967296) : KnOk (k.held n s) := ⟨h.epoch, h.most, h.index, by show n < 256; omega, hs, h.many, h.chainL, h.hadL, h.livesL, h.chain, h.had, h.lives, h.g0, h.g1⟩
def ReadySays (x : Nat) (v : DecV) (y : MsgV) (F : Asn) (w0 : World) (e : Ending) (w' : World) : Prop :=
  ∃ (v' : DecV) (D : DiskSt) (g j : Nat) (ks : List Kn) (b : List UInt8) (A : Option Addr) (G : Asn), e = .returned (.tuple #[.slice A 1 1, .int .i64 0]) ∧
    v' = { v with pj := some j, name := v'.name, lines := v'.lines, kn := { v.kn with holder := y.from_, stamp := y.num } } ∧ DecOk v' D g ks b ∧ Reads G A 16 (msg0 10 y.from_ v.kn.epoch y.num 0 0 0 0).toList ∧
    Mod w' w0 (decB x v' * (diskA v.pd D * (jourA j v.pd v'.name b.length * (G * F))))
set_option maxRecDepth 4000 in
set_option maxHeartbeats 4000000 in
/-- One that tells that a disk is ready, of the last one. -/
theorem came_ready (x j : Nat) (v : DecV) (y : MsgV) (D : DiskSt) (g : Nat) (ks : List Kn) (b : List UInt8) (w w0 : World) (F : Asn) (hj : v.pj = some j) (ok : DecOk v D g ks b) (hs : y.say = 9) (ht : y.to = 0) (h1 : 1 ≤ y.from_) (h4 : y.from_ ≤ 4) (hk : KnOk v.kn)
    (m : Mod w w0 (decB x v * (diskA v.pd D * (jourA j v.pd v.name b.length * F)))) (hsl : v.seals = false) (q : Nat) (hq : v.kn.many = q + 1) (he : y.epoch = v.kn.epoch) (hf : y.from_ = v.kn.c q) (hn : y.num ≠ 0) (hn2 : y.num < 4294967296) (hmay : KnMay (v.kn.held y.from_ y.num)) :
    Calls Tryz.prog 55 #[ptr x, .agg y.cells] w (ReadySays x v y F w0) := by
  have t0 : ((y.say : Int) == 6) = false := by rw [hs]; rfl
  have t1 : ((y.say : Int) != 6) = true := by rw [hs]; rfl
  have t2 : ((y.say : Int) != 9) = false := by rw [hs]; rfl
  have t3 : ((y.to : Int) != 0) = false := by rw [ht]; rfl
  have t4 : decide ((y.from_ : Int) < 1) = false := by rw [decide_eq_false_iff_not]; omega
  have t5 : decide ((4 : Int) < (y.from_ : Int)) = false := by rw [decide_eq_false_iff_not]; omega
  have b2 : ((q : Int) + 1 == 0) = false := beq_eq_false_iff_ne.2 (by omega)
  have b3 : ((y.epoch : Int) != (v.kn.epoch : Int)) = false := by rw [he]; simp
  have b4 : ((y.from_ : Int) != (v.kn.c q : Int)) = false := by rw [hf]; simp
  have b5 : ((y.num : Int) == 0) = false := beq_eq_false_iff_ne.2 (by omega)
  have hm4 := hk.many
  have hmi : (v.kn.many : Int) ≤ 4 := by omega
  have hcell := v.atC q (by omega)
  have hqi : (v.kn.many : Int) = (q : Int) + 1 := by omega
  have hq4 : (q : Int) < 4 := by omega
  have hq0 : (0 : Int) ≤ (q : Int) := by omega
  have Hok := Lib.hid ok
  have Hq := Lib.hid hq
  have Hf := Lib.hid hf
  have He := Lib.hid he
  have Hs := Lib.hid hs
  have Hmay := Lib.hid hmay
  have Ht := Lib.hid ht
  generalize v.kn.c q = cq at *
  clear ok hq hf he hs ht hmay
  by_cases hsame : v.kn.holder = y.from_ ∧ v.kn.stamp = y.num
  · have b6 : ((v.kn.holder : Int) != (y.from_ : Int)) = false := by rw [hsame.1]; simp
    have b7 : ((v.kn.stamp : Int) != (y.num : Int)) = false := by rw [hsame.2]; simp
    have Hsame := Lib.hid hsame
    clear hsame
    go_enter Tryz.func55, Tryz.ntmps55
    go_wp2_with (go_at_call 124; refine (dthere_spec x v _ w0 _ inferInstance).mono ?_; rintro e w1 ⟨rfl, m1⟩)
    go_quiet (fail)
    go_wp2_with first | (refine wpList_load_kn rfl rfl rfl ?_) | (refine wpList_store_kn0 rfl rfl rfl rfl rfl ?_; intro w3 m3)
    replace m3 := Mod.dropped (blk w1.heap.size (.cells v.kn.cells 171)) (m := m3)
    simp only [emp_sep] at m3
    go_region_held3 (fun u => u.cell? ⟨w.heap.size, 1, none⟩ = some (vu8 y.from_) ∧ u.cell? ⟨x, 4, none⟩ = some (vu32 v.kn.epoch) ∧ u.cell? ⟨w.heap.size, 5, none⟩ = some (vu32 y.num)) (refine ⟨?_, ?_, ?_⟩ <;> (first | (rw [cell_of]; done) | (rw [cell_of]; rfl)))
      (first | (refine wp_build_one (t := 101) (e := 98) (size := 16) (bytes := 192) (cs := msg0 10 y.from_ v.kn.epoch y.num 0 0 0 0) rfl rfl rfl (by decide) ?_))
    go_wp2_with fail
    go_ret2
    refine ⟨v, D, g, j, ks, b, some ⟨w3.heap.size, 0, none⟩, Go.Sl.blk w3.heap.size (.cells (msg0 10 y.from_ v.kn.epoch y.num 0 0 0 0) 98) * Go.Sl.blk w.heap.size (.cells y.cells 98), rfl, ?_, Hok.out, reads_lift inferInstance (reads_blk (F := Go.Sl.blk w3.heap.size (.cells (msg0 10 y.from_ v.kn.epoch y.num 0 0 0 0) 98)) rfl rfl), ?_⟩
    · rw [← Hsame.out.1, ← Hsame.out.2, ← hj]
    · refine Mod.to (m := inferInstance) ?_
      ac_rfl
  · have hd : ((v.kn.holder : Int) != (y.from_ : Int)) = true ∨ ((v.kn.holder : Int) != (y.from_ : Int)) = false ∧ ((v.kn.stamp : Int) != (y.num : Int)) = true := by
      by_cases h1 : v.kn.holder = y.from_ <;> by_cases h2 : v.kn.stamp = y.num
      · exact absurd ⟨h1, h2⟩ hsame
      · right; simp [h1]; omega
      · left; rw [bne_iff_ne]; omega
      · left; rw [bne_iff_ne]; omega
    rcases hd with b6 | ⟨b6, b7⟩
    all_goals
      go_enter Tryz.func55, Tryz.ntmps55
      go_wp2_with (go_at_call 124; refine (dthere_spec x v _ w0 _ inferInstance).mono ?_; rintro e w1 ⟨rfl, m1⟩)
      go_quiet (fail)
      go_wp2_with first | (refine wpList_load_kn rfl rfl rfl ?_) | (refine wpList_store_kn0 rfl rfl rfl rfl rfl ?_; intro w3 m3)
      simp only [emp_sep] at m3
      go_region_held3 (fun u => u.cell? ⟨w.heap.size, 1, none⟩ = some (vu8 y.from_) ∧ u.cell? ⟨w.heap.size, 5, none⟩ = some (vu32 y.num)) (refine ⟨?_, ?_⟩ <;> (first | (rw [cell_of]; done) | (rw [cell_of]; rfl))) (fail)
      go_wp2_with first | (refine wpList_load_kn rfl rfl rfl ?_)
      refine calls_gen (w0 := w0) ?_
      intro w7 m7
      simp only [emp_sep] at m7
      refine (keeps_spec x j v D g ks b (v.kn.held y.from_ y.num) ⟨held_ok hk h4 hn2, Hmay.out⟩ _ w0 _ hj Hok.out (Mod.pull3 (decB x v) (diskA v.pd D) (jourA j v.pd v.name b.length))).mono ?_
      rintro e w5 ⟨rfl, D2, g2, j2, ks2, b2', nm, nl, ok2, m5⟩
      have Hok2 := Lib.hid ok2
      clear m m1 m3 m7 Hok ok2
      go_wp2_with fail
      replace m5 := Mod.dropped (blk w1.heap.size (.cells ((v.kn.cells.setIfInBounds 3 (vu8 y.from_)).setIfInBounds 4 (vu32 y.num)) 171)) (m := m5)
      go_region_held3 (fun u => u.cell? ⟨w.heap.size, 1, none⟩ = some (vu8 y.from_) ∧ u.cell? ⟨x, 4, none⟩ = some (vu32 v.kn.epoch) ∧ u.cell? ⟨w.heap.size, 5, none⟩ = some (vu32 y.num)) (refine ⟨?_, ?_, ?_⟩ <;> (first | (rw [cell_of]; done) | (rw [cell_of]; rfl)))
        (first | (refine wp_build_one (t := 101) (e := 98) (size := 16) (bytes := 192) (cs := msg0 10 y.from_ v.kn.epoch y.num 0 0 0 0) rfl rfl rfl (by decide) ?_))
      go_wp2_with fail
      go_ret2
      obtain ⟨q1, q2, q3, q4, q5, q6, q7, q8, q9, q10⟩ := Hok2.out
      refine ⟨{ v with pj := some j2, name := nm, lines := nl, kn := v.kn.held y.from_ y.num }, D2, g2, j2, ks2, b2', some ⟨w5.heap.size, 0, none⟩, Go.Sl.blk w5.heap.size (.cells (msg0 10 y.from_ v.kn.epoch y.num 0 0 0 0) 98) * Go.Sl.blk w.heap.size (.cells y.cells 98), rfl, rfl, ⟨q1, q2, q3, q4, q5, q6, q7, q8, q9, q10⟩, reads_lift inferInstance (reads_blk (F := Go.Sl.blk w5.heap.size (.cells (msg0 10 y.from_ v.kn.epoch y.num 0 0 0 0) 98)) rfl rfl), ?_⟩
      refine Mod.to (m := inferInstance) ?_
      show _ = decB x _ * (diskA v.pd D2 * (jourA j2 v.pd nm b2'.length * _))
      ac_rfl
end Go.Proofs.YtkdiejbpleojnaaGreatDoor
namespace Go.Proofs.YtkdiejbpleojnaaGreatDoor
open Go.RowKit Go.Sl
attribute [local go_sem] cell_of frozen_of zero_names DecV.at0 DecV.at1 DecV.at2 DecV.at3 DecV.at4 DecV.at5 DecV.at6 DecV.at7 DecV.at8 DecV.at9 DecV.at10 DecV.at11 DecV.at12 DecV.at13 DecV.at14 DecV.at15 DecV.at16 DecV.at17 DecV.at18 DecV.at19 DecV.at20 DecV.at21 DecV.at22 DecV.at23 DecV.at24 DecV.at25 DecV.at26 DecV.at27 DecV.at28 DecV.at29 DecV.at30 DecV.at31 MsgV.at0 MsgV.at1 MsgV.at2 MsgV.at3 MsgV.at4 MsgV.at5 MsgV.at6 MsgV.at7 MsgV.at8 MsgV.at9 Kn.at0 Kn.at1 Kn.at2 Kn.at3 Kn.at4 Kn.at5 Kn.at6
set_option maxRecDepth 4000 in
set_option maxHeartbeats 4000000 in
/-- One of no moment. -/
theorem came_sealed_no (x : Nat) (v : DecV) (y : MsgV) (join : List Nat) (w w0 : World) (S : Asn) (hs : y.say = 6) (ht : y.to = 0) (h1 : 1 ≤ y.from_) (h4 : y.from_ ≤ 4) (hk : KnOk v.kn)
    (m : Mod w w0 S) [hx : Has S x (.cells v.cells 175 (0, 0))] (r : Reads S v.jA v.jn (n8s join)) (hjn : v.jn ≤ 1000000) (h : v.seals = false ∨ y.epoch ≠ v.kn.most ∨ y.from_ ∉ v.kn.nodes ++ join ∨ ∃ g, v.a y.from_ = some g) :
    Calls Tryz.prog 55 #[ptr x, .agg y.cells] w fun e w' => e = .returned (.tuple #[.slice none 0 0, .int .i64 0]) ∧ Mod w' w0 S := by
  have t0 : ((y.say : Int) == 6) = true := by rw [hs]; rfl
  have t1 : ((y.say : Int) != 6) = false := by rw [hs]; rfl
  have t3 : ((y.to : Int) != 0) = false := by rw [ht]; rfl
  have t4 : decide ((y.from_ : Int) < 1) = false := by rw [decide_eq_false_iff_not]; omega
  have t5 : decide ((4 : Int) < (y.from_ : Int)) = false := by rw [decide_eq_false_iff_not]; omega
  have hm4 := hk.many
  have hcase : v.seals = false ∨ (v.seals = true ∧ ((y.epoch : Int) == (v.kn.most : Int)) = false) ∨ (v.seals = true ∧ ((y.epoch : Int) == (v.kn.most : Int)) = true ∧ (decide (y.from_ ∈ v.kn.nodes ++ join) = false ∨ decide (y.from_ ∈ v.kn.nodes ++ join) = true ∧ ∃ g, v.cells[27 + y.from_]? = some (ptr g))) := by
    cases hsl : v.seals
    · exact .inl rfl
    · rw [hsl] at h
      by_cases he : y.epoch = v.kn.most
      · refine .inr (.inr ⟨rfl, by simp [he], ?_⟩)
        by_cases hmem : y.from_ ∈ v.kn.nodes ++ join
        · refine .inr ⟨decide_eq_true hmem, ?_⟩
          rcases h with h | h | h | ⟨g, h⟩
          · cases h
          · exact absurd he h
          · exact absurd hmem h
          · exact ⟨g, by rw [v.atA _ h4, h]; rfl⟩
        · exact .inl (decide_eq_false hmem)
      · exact .inr (.inl ⟨rfl, beq_eq_false_iff_ne.2 (by omega)⟩)
  have hf0 : (0 : Int) ≤ (y.from_ : Int) := by omega
  have hf5 : (y.from_ : Int) < 5 := by omega
  clear hs ht h
  rcases hcase with b1 | ⟨b1, b2⟩ | ⟨b1, b2, hr⟩
  rotate_left 2
  · rcases hr with b3 | ⟨b3, g, b4⟩
    · go_enter Tryz.func55, Tryz.ntmps55
      go_wp2_with (go_at_call 124; refine (dthere_spec x v _ w0 _ inferInstance).mono ?_; rintro e w1 ⟨rfl, m1⟩)
      refine wp_region_held_drew (S := (fun u => u.cell? ⟨x, 25, none⟩ = some (.bool true) ∧ u.cell? ⟨w.heap.size, 3, none⟩ = some (vu32 y.epoch) ∧ u.cell? ⟨x, 5, none⟩ = some (vu32 v.kn.most) ∧ u.cell? ⟨w.heap.size, 1, none⟩ = some (vu8 y.from_) ∧ u.cell? ⟨x, 27 + y.from_, none⟩ = v.cells[27 + y.from_]?)) (by kernel_rfl) (by refine ⟨?_, ?_, ?_, ?_, ?_⟩ <;> (first | (rw [cell_of]; done) | (rw [cell_of]; rfl) | (rw [cell_of, v.at25, b1]))) (fun hHeld => ?_)
      refine' wpAnyH_take (i := 0) (v := ?_) (by simp only [List.getElem?_toArray, List.getElem?_cons_zero]; rfl) (by kernel_rfl) (by kernel_rfl) (by kernel_rfl) (by exact fun _ _ _ h => h) (Or.inl ⟨by rfl, ?_⟩) (by assumption) ?_
      rotate_left
      · intro u hSw
        try dsimp only at hSw
        go_simp
        try with_reducible rfl
      try simp only [Act.put, List.setIfInBounds_toArray, List.set_cons_zero, List.set_cons_succ]
      refine' wpAnyH_take (i := 1) (v := ?_) (by simp only [List.getElem?_toArray, List.getElem?_cons_succ, List.getElem?_cons_zero]; rfl) (by kernel_rfl) (by kernel_rfl) (by kernel_rfl) (by exact fun _ _ _ h => h) (Or.inl ⟨by rfl, ?_⟩) (by assumption) ?_
      rotate_left
      · intro u hSw
        try dsimp only at hSw
        go_simp
        try with_reducible rfl
      try simp only [Act.put, List.setIfInBounds_toArray, List.set_cons_zero, List.set_cons_succ]
      refine' wpAnyH_take (i := 2) (v := ?_) (by simp only [List.getElem?_toArray, List.getElem?_cons_succ, List.getElem?_cons_zero]; rfl) (by kernel_rfl) (by kernel_rfl) (by kernel_rfl) (by exact fun _ _ _ h => h) (Or.inl ⟨by rfl, ?_⟩) (by assumption) ?_
      rotate_left
      · intro u hSw
        try dsimp only at hSw
        go_simp
        try with_reducible rfl
      try simp only [Act.put, List.setIfInBounds_toArray, List.set_cons_zero, List.set_cons_succ]
      refine' wpAnyH_take (i := 3) (v := ?_) (by simp only [List.getElem?_toArray, List.getElem?_cons_succ, List.getElem?_cons_zero]; rfl) (by kernel_rfl) (by kernel_rfl) (by kernel_rfl) (by exact fun _ _ _ h => h) (Or.inl ⟨by rfl, ?_⟩) (by assumption) ?_
      rotate_left
      · intro u hSw
        try dsimp only at hSw
        go_simp
        try with_reducible rfl
      try simp only [Act.put, List.setIfInBounds_toArray, List.set_cons_zero, List.set_cons_succ]
      refine' wpAnyH_take (i := 4) (v := ?_) (by simp only [List.getElem?_toArray, List.getElem?_cons_succ, List.getElem?_cons_zero]; rfl) (by kernel_rfl) (by kernel_rfl) (by kernel_rfl) (by exact fun _ _ _ h => h) (Or.inl ⟨by rfl, ?_⟩) (by assumption) ?_
      rotate_left
      · intro u hSw
        try dsimp only at hSw
        go_simp
        try with_reducible rfl
      try simp only [Act.put, List.setIfInBounds_toArray, List.set_cons_zero, List.set_cons_succ]
      refine' wpAnyH_take (i := 5) (v := ?_) (by simp only [List.getElem?_toArray, List.getElem?_cons_succ, List.getElem?_cons_zero]; rfl) (by kernel_rfl) (by kernel_rfl) (by kernel_rfl) (by exact fun _ _ _ h => h) (Or.inl ⟨by rfl, ?_⟩) (by assumption) ?_
      rotate_left
      · intro u hSw
        try dsimp only at hSw
        go_simp
        try with_reducible rfl
      try simp only [Act.put, List.setIfInBounds_toArray, List.set_cons_zero, List.set_cons_succ]
      refine' wpAnyH_take (i := 6) (v := ?_) (by simp only [List.getElem?_toArray, List.getElem?_cons_succ, List.getElem?_cons_zero]; rfl) (by kernel_rfl) (by kernel_rfl) (by kernel_rfl) (by exact fun _ _ _ h => h) (Or.inl ⟨by rfl, ?_⟩) (by assumption) ?_
      rotate_left
      · intro u hSw
        try dsimp only at hSw
        go_simp
        try with_reducible rfl
      try simp only [Act.put, List.setIfInBounds_toArray, List.set_cons_zero, List.set_cons_succ]
      refine' wpAnyH_take (i := 7) (v := ?_) (by simp only [List.getElem?_toArray, List.getElem?_cons_succ, List.getElem?_cons_zero]; rfl) (by kernel_rfl) (by kernel_rfl) (by kernel_rfl) (by exact fun _ _ _ h => h) (Or.inl ⟨by rfl, ?_⟩) (by assumption) ?_
      rotate_left
      · intro u hSw
        try dsimp only at hSw
        go_simp
        try with_reducible rfl
      try simp only [Act.put, List.setIfInBounds_toArray, List.set_cons_zero, List.set_cons_succ]
      refine' wpAnyH_take (i := 8) (v := ?_) (by simp only [List.getElem?_toArray, List.getElem?_cons_succ, List.getElem?_cons_zero]; rfl) (by kernel_rfl) (by kernel_rfl) (by kernel_rfl) (by exact fun _ _ _ h => h) (Or.inl ⟨by rfl, ?_⟩) (by assumption) ?_
      rotate_left
      · intro u hSw
        try dsimp only at hSw
        go_simp
        try with_reducible rfl
      try simp only [Act.put, List.setIfInBounds_toArray, List.set_cons_zero, List.set_cons_succ]
      refine' wpAnyH_take (i := 9) (v := ?_) (by simp only [List.getElem?_toArray, List.getElem?_cons_succ, List.getElem?_cons_zero]; rfl) (by kernel_rfl) (by kernel_rfl) (by kernel_rfl) (by exact fun _ _ _ h => h) (Or.inl ⟨by rfl, ?_⟩) (by assumption) ?_
      rotate_left
      · intro u hSw
        try dsimp only at hSw
        go_simp
        try with_reducible rfl
      try simp only [Act.put, List.setIfInBounds_toArray, List.set_cons_zero, List.set_cons_succ]
      refine' wpAnyH_take (i := 10) (v := ?_) (by simp only [List.getElem?_toArray, List.getElem?_cons_succ, List.getElem?_cons_zero]; rfl) (by kernel_rfl) (by kernel_rfl) (by kernel_rfl) (by exact fun _ _ _ h => h) (Or.inl ⟨by rfl, ?_⟩) (by assumption) ?_
      rotate_left
      · intro u hSw
        try dsimp only at hSw
        go_simp
        try with_reducible rfl
      try simp only [Act.put, List.setIfInBounds_toArray, List.set_cons_zero, List.set_cons_succ]
      refine' wpAnyH_take (i := 11) (v := ?_) (by simp only [List.getElem?_toArray, List.getElem?_cons_succ, List.getElem?_cons_zero]; rfl) (by kernel_rfl) (by kernel_rfl) (by kernel_rfl) (by exact fun _ _ _ h => h) (Or.inl ⟨by rfl, ?_⟩) (by assumption) ?_
      rotate_left
      · intro u hSw
        try dsimp only at hSw
        go_simp
        try with_reducible rfl
      try simp only [Act.put, List.setIfInBounds_toArray, List.set_cons_zero, List.set_cons_succ]
      refine' wpAnyH_take (i := 12) (v := ?_) (by simp only [List.getElem?_toArray, List.getElem?_cons_succ, List.getElem?_cons_zero]; rfl) (by kernel_rfl) (by kernel_rfl) (by kernel_rfl) (by exact fun _ _ _ h => h) (Or.inl ⟨by rfl, ?_⟩) (by assumption) ?_
      rotate_left
      · intro u hSw
        try dsimp only at hSw
        go_simp
        try with_reducible rfl
      try simp only [Act.put, List.setIfInBounds_toArray, List.set_cons_zero, List.set_cons_succ]
      refine' wpAnyH_take (i := 13) (v := ?_) (by simp only [List.getElem?_toArray, List.getElem?_cons_succ, List.getElem?_cons_zero]; rfl) (by kernel_rfl) (by kernel_rfl) (by kernel_rfl) (by exact fun _ _ _ h => h) (Or.inl ⟨by rfl, ?_⟩) (by assumption) ?_
      rotate_left
      · intro u hSw
        try dsimp only at hSw
        go_simp
        try with_reducible rfl
      try simp only [Act.put, List.setIfInBounds_toArray, List.set_cons_zero, List.set_cons_succ]
      refine' wpAnyH_take (i := 14) (v := ?_) (by simp only [List.getElem?_toArray, List.getElem?_cons_succ, List.getElem?_cons_zero]; rfl) (by kernel_rfl) (by kernel_rfl) (by kernel_rfl) (by exact fun _ _ _ h => h) (Or.inl ⟨by rfl, ?_⟩) (by assumption) ?_
      rotate_left
      · intro u hSw
        try dsimp only at hSw
        go_simp
        try with_reducible rfl
      try simp only [Act.put, List.setIfInBounds_toArray, List.set_cons_zero, List.set_cons_succ]
      refine' wpAnyH_take (i := 15) (v := ?_) (by simp only [List.getElem?_toArray, List.getElem?_cons_succ, List.getElem?_cons_zero]; rfl) (by kernel_rfl) (by kernel_rfl) (by kernel_rfl) (by exact fun _ _ _ h => h) (Or.inl ⟨by rfl, ?_⟩) (by assumption) ?_
      rotate_left
      · intro u hSw
        try dsimp only at hSw
        go_simp
        try with_reducible rfl
      try simp only [Act.put, List.setIfInBounds_toArray, List.set_cons_zero, List.set_cons_succ]
      refine' wpAnyH_take (i := 17) (v := ?_) (by simp only [List.getElem?_toArray, List.getElem?_cons_succ, List.getElem?_cons_zero]; rfl) (by kernel_rfl) (by kernel_rfl) (by kernel_rfl) (by exact fun _ _ _ h => h) (Or.inl ⟨by rfl, ?_⟩) (by assumption) ?_
      rotate_left
      · intro u hSw
        try dsimp only at hSw
        go_simp
        try with_reducible rfl
      try simp only [Act.put, List.setIfInBounds_toArray, List.set_cons_zero, List.set_cons_succ]
      refine' wpAnyH_take (i := 18) (v := ?_) (by simp only [List.getElem?_toArray, List.getElem?_cons_succ, List.getElem?_cons_zero]; rfl) (by kernel_rfl) (by kernel_rfl) (by kernel_rfl) (by exact fun _ _ _ h => h) (Or.inl ⟨by rfl, ?_⟩) (by assumption) ?_
      rotate_left
      · intro u hSw
        try dsimp only at hSw
        go_simp
        try with_reducible rfl
      try simp only [Act.put, List.setIfInBounds_toArray, List.set_cons_zero, List.set_cons_succ]
      refine wpAnyH_ready (rs := [16]) (by kernel_rfl) (by simp) ?_
      refine AllReadyH.cons rfl (fun K hK => ?_) AllReadyH.nil
      go_simp
      refine (members_spec x v join _ w0 _ inferInstance inferInstance hm4 (reads_lift inferInstance r) hjn).mono ?_
      rintro e w3 ⟨A3, c3, rfl, m3⟩
      go_wp2_with fail
      refine hK.out _ _ ?_ (fun hHeld => ?_)
      · refine ⟨?_, ?_, ?_, ?_, ?_⟩ <;> (first | (rw [cell_of]; done) | (rw [cell_of]; rfl) | (rw [cell_of, v.at25, b1]))
      clear hK K
      try simp only [Act.put, List.setIfInBounds_toArray, List.set_cons_zero, List.set_cons_succ]
      refine wpAnyH_ready (rs := [19]) (by kernel_rfl) (by simp) ?_
      refine AllReadyH.cons rfl (fun K hK => ?_) AllReadyH.nil
      go_simp
      refine (contains_spec A3 (v.kn.many + v.jn) c3 (v.kn.nodes ++ join) y.from_ _ w0 _ m3 inferInstance (by omega)).mono ?_
      rintro e w4 ⟨he, m4⟩
      rw [b3] at he
      subst he
      go_wp2_with fail
      refine hK.out _ _ ?_ (fun hHeld => ?_)
      · refine ⟨?_, ?_, ?_, ?_, ?_⟩ <;> (first | (rw [cell_of]; done) | (rw [cell_of]; rfl) | (rw [cell_of, v.at25, b1]))
      clear hK K
      try simp only [Act.put, List.setIfInBounds_toArray, List.set_cons_zero, List.set_cons_succ]
      refine' wpAnyH_take (i := 20) (v := ?_) (by simp only [List.getElem?_toArray, List.getElem?_cons_succ, List.getElem?_cons_zero]; rfl) (by kernel_rfl) (by kernel_rfl) (by kernel_rfl) (by exact fun _ _ _ h => h) (Or.inl ⟨by rfl, ?_⟩) (by assumption) ?_
      rotate_left
      · intro u hSw
        try dsimp only at hSw
        go_simp
        try with_reducible rfl
      try simp only [Act.put, List.setIfInBounds_toArray, List.set_cons_zero, List.set_cons_succ]
      refine' wpAnyH_take (i := 21) (v := ?_) (by simp only [List.getElem?_toArray, List.getElem?_cons_succ, List.getElem?_cons_zero]; rfl) (by kernel_rfl) (by kernel_rfl) (by kernel_rfl) (by exact fun _ _ _ h => h) (Or.inl ⟨by rfl, ?_⟩) (by assumption) ?_
      rotate_left
      · intro u hSw
        try dsimp only at hSw
        go_simp
        try with_reducible rfl
      try simp only [Act.put, List.setIfInBounds_toArray, List.set_cons_zero, List.set_cons_succ]
      refine wpAnyH_take (i := 22) (v := undef) (by simp only [List.getElem?_toArray, List.getElem?_cons_succ, List.getElem?_cons_zero]; rfl) (by kernel_rfl) (by kernel_rfl) (by kernel_rfl) (by exact fun _ _ _ h => h) (Or.inr ⟨by rfl, rfl⟩) (by assumption) ?_
      try simp only [Act.put, List.setIfInBounds_toArray, List.set_cons_zero, List.set_cons_succ]
      refine wpAnyH_take (i := 23) (v := undef) (by simp only [List.getElem?_toArray, List.getElem?_cons_succ, List.getElem?_cons_zero]; rfl) (by kernel_rfl) (by kernel_rfl) (by kernel_rfl) (by exact fun _ _ _ h => h) (Or.inr ⟨by rfl, rfl⟩) (by assumption) ?_
      try simp only [Act.put, List.setIfInBounds_toArray, List.set_cons_zero, List.set_cons_succ]
      refine wpAnyH_take (i := 24) (v := undef) (by simp only [List.getElem?_toArray, List.getElem?_cons_succ, List.getElem?_cons_zero]; rfl) (by kernel_rfl) (by kernel_rfl) (by kernel_rfl) (by exact fun _ _ _ h => h) (Or.inr ⟨by rfl, rfl⟩) (by assumption) ?_
      try simp only [Act.put, List.setIfInBounds_toArray, List.set_cons_zero, List.set_cons_succ]
      refine wpAnyH_take (i := 25) (v := undef) (by simp only [List.getElem?_toArray, List.getElem?_cons_succ, List.getElem?_cons_zero]; rfl) (by kernel_rfl) (by kernel_rfl) (by kernel_rfl) (by exact fun _ _ _ h => h) (Or.inr ⟨by rfl, rfl⟩) (by assumption) ?_
      try simp only [Act.put, List.setIfInBounds_toArray, List.set_cons_zero, List.set_cons_succ]
      refine wpAnyH_take (i := 26) (v := undef) (by simp only [List.getElem?_toArray, List.getElem?_cons_succ, List.getElem?_cons_zero]; rfl) (by kernel_rfl) (by kernel_rfl) (by kernel_rfl) (by exact fun _ _ _ h => h) (Or.inr ⟨by rfl, rfl⟩) (by assumption) ?_
      try simp only [Act.put, List.setIfInBounds_toArray, List.set_cons_zero, List.set_cons_succ]
      refine wpAnyH_take (i := 27) (v := undef) (by simp only [List.getElem?_toArray, List.getElem?_cons_succ, List.getElem?_cons_zero]; rfl) (by kernel_rfl) (by kernel_rfl) (by kernel_rfl) (by exact fun _ _ _ h => h) (Or.inr ⟨by rfl, rfl⟩) (by assumption) ?_
      try simp only [Act.put, List.setIfInBounds_toArray, List.set_cons_zero, List.set_cons_succ]
      refine wpAnyH_take (i := 28) (v := undef) (by simp only [List.getElem?_toArray, List.getElem?_cons_succ, List.getElem?_cons_zero]; rfl) (by kernel_rfl) (by kernel_rfl) (by kernel_rfl) (by exact fun _ _ _ h => h) (Or.inr ⟨by rfl, rfl⟩) (by assumption) ?_
      try simp only [Act.put, List.setIfInBounds_toArray, List.set_cons_zero, List.set_cons_succ]
      refine wpAnyH_take (i := 29) (v := undef) (by simp only [List.getElem?_toArray, List.getElem?_cons_succ, List.getElem?_cons_zero]; rfl) (by kernel_rfl) (by kernel_rfl) (by kernel_rfl) (by exact fun _ _ _ h => h) (Or.inr ⟨by rfl, rfl⟩) (by assumption) ?_
      try simp only [Act.put, List.setIfInBounds_toArray, List.set_cons_zero, List.set_cons_succ]
      refine' wpAnyH_take (i := 30) (v := ?_) (by simp only [List.getElem?_toArray, List.getElem?_cons_succ, List.getElem?_cons_zero]; rfl) (by kernel_rfl) (by kernel_rfl) (by kernel_rfl) (by exact fun _ _ _ h => h) (Or.inl ⟨by rfl, ?_⟩) (by assumption) ?_
      rotate_left
      · intro u hSw
        try dsimp only at hSw
        go_simp
        try with_reducible rfl
      try simp only [Act.put, List.setIfInBounds_toArray, List.set_cons_zero, List.set_cons_succ]
      refine wpAnyH_done (by kernel_rfl) ?_ _
      go_wp2_with fail
      go_ret2
      exact ⟨rfl, Mod.sub S (m := m4)⟩
    · go_enter Tryz.func55, Tryz.ntmps55
      go_wp2_with (go_at_call 124; refine (dthere_spec x v _ w0 _ inferInstance).mono ?_; rintro e w1 ⟨rfl, m1⟩)
      go_region_held3 (fun u => u.cell? ⟨x, 25, none⟩ = some (.bool true) ∧ u.cell? ⟨w.heap.size, 3, none⟩ = some (vu32 y.epoch) ∧ u.cell? ⟨x, 5, none⟩ = some (vu32 v.kn.most) ∧ u.cell? ⟨w.heap.size, 1, none⟩ = some (vu8 y.from_) ∧ u.cell? ⟨x, 27 + y.from_, none⟩ = v.cells[27 + y.from_]?) (refine ⟨?_, ?_, ?_, ?_, ?_⟩ <;> (first | (rw [cell_of]; done) | (rw [cell_of]; rfl) | (rw [cell_of, v.at25, b1])))
        (first | (go_at_call 127; refine (members_spec x v join _ w0 _ inferInstance inferInstance hm4 (reads_lift inferInstance r) hjn).mono ?_; rintro e w3 ⟨A3, c3, rfl, m3⟩) | (go_at_call 125; refine (contains_spec A3 (v.kn.many + v.jn) c3 (v.kn.nodes ++ join) y.from_ _ w0 _ inferInstance inferInstance (by omega)).mono ?_; rintro e w4 ⟨he, m4⟩; rw [b3] at he; subst he))
      go_wp2_with fail
      go_ret2
      exact ⟨rfl, Mod.sub S (m := m4)⟩
  all_goals
    go_enter Tryz.func55, Tryz.ntmps55
    go_wp2_with (go_at_call 124; refine (dthere_spec x v _ w0 _ inferInstance).mono ?_; rintro e w1 ⟨rfl, m1⟩)
    go_quiet (fail)
    go_wp2_with fail
    go_ret2
    exact ⟨rfl, Mod.drop (m := (inferInstance : Mod _ w0 _))⟩
end Go.Proofs.YtkdiejbpleojnaaGreatDoor
namespace Go.Proofs.YtkdiejbpleojnaaGreatDoor
open Go.RowKit Go.Sl
attribute [local go_sem] cell_of frozen_of zero_names DecV.at0 DecV.at1 DecV.at2 DecV.at3 DecV.at4 DecV.at5 DecV.at6 DecV.at7 DecV.at8 DecV.at9 DecV.at10 DecV.at11 DecV.at12 DecV.at13 DecV.at14 DecV.at15 DecV.at16 DecV.at17 DecV.at18 DecV.at19 DecV.at20 DecV.at21 DecV.at22 DecV.at23 DecV.at24 DecV.at25 DecV.at26 DecV.at27 DecV.at28 DecV.at29 DecV.at30 DecV.at31 MsgV.at0 MsgV.at1 MsgV.at2 MsgV.at3 MsgV.at4 MsgV.at5 MsgV.at6 MsgV.at7 MsgV.at8 Kn.at0 Kn.at1 Kn.at2 Kn.at3 Kn.at4 Kn.at5 Kn.at6
set_option maxRecDepth 4000 in
set_option maxHeartbeats 4000000 in
/-- One that is held. -/
theorem came_sealed_yes (x : Nat) (v : DecV) (y : MsgV) (join has : List Nat) (w w0 : World) (F : Asn) (hs : y.say = 6) (ht : y.to = 0) (h1 : 1 ≤ y.from_) (h4 : y.from_ ≤ 4) (hk : KnOk v.kn)
    (m : Mod w w0 (decB x v * F)) (r : Reads F v.jA v.jn (n8s join)) (hjn : v.jn ≤ 1000000) (hsl : v.seals = true) (he : y.epoch = v.kn.most) (hm : y.from_ ∈ v.kn.nodes ++ join) (ha : v.a y.from_ = none) (N : Nat) (hn : y.haN = N) (hN2 : N ≤ 17592186044416) (rh : Reads F y.haA N (has.map vu64)) :
    Calls Tryz.prog 55 #[ptr x, .agg y.cells] w fun e w' => e = .returned (.tuple #[.slice none 0 0, .int .i64 0]) ∧ ∃ (g : Nat) (A : Option Addr) (c : Nat) (y2 : MsgV), y2.ans has = y.ans has ∧ y2.haN = N ∧ y2.haA = A ∧
      Mod w' w0 (decB x (v.setA y.from_ g) * (blk g (.cells y2.cells 98 (0, 0)) * (rowA 90 1 (.slice A N c) N (has.map vu64) * F))) := by
  have t0 : ((y.say : Int) == 6) = true := by rw [hs]; rfl
  have t1 : ((y.say : Int) != 6) = false := by rw [hs]; rfl
  have t3 : ((y.to : Int) != 0) = false := by rw [ht]; rfl
  have t4 : decide ((y.from_ : Int) < 1) = false := by rw [decide_eq_false_iff_not]; omega
  have t5 : decide ((4 : Int) < (y.from_ : Int)) = false := by rw [decide_eq_false_iff_not]; omega
  have hm4 := hk.many
  have b1 : v.seals = true := hsl
  have b2 : ((y.epoch : Int) == (v.kn.most : Int)) = true := by rw [he]; simp
  have b3 : decide (y.from_ ∈ v.kn.nodes ++ join) = true := decide_eq_true hm
  have b4 : v.cells[27 + y.from_]? = some (.pointer none) := by rw [v.atA _ h4, ha]; rfl
  have hf0 : (0 : Int) ≤ (y.from_ : Int) := by omega
  have hf5 : (y.from_ : Int) < 5 := by omega
  have Hset := Lib.hid fun g => v.setA_cells y.from_ g h4
  have hc9 : y.cells[9]? = some (.slice y.haA N y.haC) := by rw [← hn]; rfl
  clear hs ht hsl he hm ha hn
  go_enter Tryz.func55, Tryz.ntmps55
  go_wp2_with (go_at_call 124; refine (dthere_spec x v _ w0 _ inferInstance).mono ?_; rintro e w1 ⟨rfl, m1⟩)
  go_region_held3 (fun u => u.cell? ⟨x, 25, none⟩ = some (.bool true) ∧ u.cell? ⟨w.heap.size, 3, none⟩ = some (vu32 y.epoch) ∧ u.cell? ⟨x, 5, none⟩ = some (vu32 v.kn.most) ∧ u.cell? ⟨w.heap.size, 1, none⟩ = some (vu8 y.from_) ∧ u.cell? ⟨x, 27 + y.from_, none⟩ = v.cells[27 + y.from_]?) (refine ⟨?_, ?_, ?_, ?_, ?_⟩ <;> (first | (rw [cell_of]; done) | (rw [cell_of]; rfl) | (rw [cell_of, v.at25, b1])))
    (first | (go_at_call 127; refine (members_spec x v join _ w0 _ inferInstance inferInstance hm4 (reads_lift inferInstance r) hjn).mono ?_; rintro e w3 ⟨A3, c3, rfl, m3⟩) | (go_at_call 125; refine (contains_spec A3 (v.kn.many + v.jn) c3 (v.kn.nodes ++ join) y.from_ _ w0 _ inferInstance inferInstance (by omega)).mono ?_; rintro e w4 ⟨he, m4⟩; rw [b3] at he; subst he))
  replace m4 := Mod.dropped (rowA 5 1 (.slice A3 (v.kn.many + v.jn) c3) (v.kn.many + v.jn) (n8s (v.kn.nodes ++ join))) (m := m4)
  go_wp2_with fail
  go_region_held3 (fun u => u.cell? ⟨w.heap.size, 1, none⟩ = some (vu8 y.from_) ∧ u.cell? ⟨w.heap.size, 5, none⟩ = some (vu32 y.num) ∧ u.cell? ⟨w.heap.size, 4, none⟩ = some (vu8 y.level) ∧ u.cell? ⟨w.heap.size, 6, none⟩ = some (vu64 y.index) ∧ u.cell? ⟨w.heap.size, 7, none⟩ = some (vu64 y.sure) ∧ u.cell? ⟨w.heap.size, 9, none⟩ = some (.slice y.haA N y.haC)) (refine ⟨?_, ?_, ?_, ?_, ?_, ?_⟩ <;> (first | (rw [cell_of]; done) | (rw [cell_of, hc9]; done) | (rw [cell_of]; rfl)))
    (first | (go_at_call 136; refine (clone_u64s y.haA N y.haC (u64s has) _ w0 _ inferInstance (reads_lift inferInstance rh) (one_u64s _) hN2).mono ?_; rintro e w5 ⟨A', c', rfl, m5⟩))
  go_wp2_with fail
  go_ret2
  replace m5 := Mod.dropped (Go.Sl.blk w.heap.size (.cells y.cells 98)) (m := m5)
  refine ⟨rfl, w5.heap.size, A', c', ⟨0, 0, 0, 0, y.level, y.num, y.index, y.sure, none, 0, 0, A', N, c', .slice none 0 0, .slice none 0 0, .slice none 0 0, .int .i64 0, .bool false, .slice none 0 0⟩, rfl, rfl, rfl, ?_⟩
  rw [decB, ← Hset.out w5.heap.size]
  refine Mod.to (m := inferInstance) ?_
  rw [emp_sep]
  show _ = Go.Sl.blk x (.cells (v.cells.setIfInBounds (27 + y.from_) (ptr w5.heap.size)) 175 (0, 0)) * (Go.Sl.blk w5.heap.size (.cells #[vu8 0, vu8 0, vu8 0, vu32 0, vu8 y.level, vu32 y.num, vu64 y.index, vu64 y.sure, .slice none 0 0, .slice A' N c', .slice none 0 0, .slice none 0 0, .slice none 0 0, .int .i64 0, .bool false, .slice none 0 0] 98 (0, 0)) * (rowA 90 1 (.slice A' N c') N (u64s has) * F))
  ac_rfl
end Go.Proofs.YtkdiejbpleojnaaGreatDoor
