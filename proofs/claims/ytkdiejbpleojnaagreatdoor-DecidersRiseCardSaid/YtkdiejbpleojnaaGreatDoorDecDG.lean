/- The walk of the decider's makes: a contract over the small separation logic; the conditions are in the theorem.
The walk of the decider's disk: a contract over the small separation logic; the conditions are in the theorem.
The walk of the decider's Decide: contracts over the small separation logic; the conditions are in each theorem. -/
import Derived.Test.YtkdiejbpleojnaaGreatDoorDecMG
import Derived.Deep.RegionHeld3
import Derived.Deep.LoopGhost
import Derived.Deep.QuietTactic
import Derived.BigQuiet
namespace Go.Proofs.YtkdiejbpleojnaaGreatDoor
open Go.RowKit Go.Sl
attribute [local go_sem] cell_of frozen_of zero_names DecV.at0 DecV.at1 DecV.at2 DecV.at3 DecV.at4 DecV.at5 DecV.at6 DecV.at7 DecV.at8 DecV.at9 DecV.at10 DecV.at11 DecV.at12 DecV.at13 DecV.at14 DecV.at15 DecV.at16 DecV.at17 DecV.at18 DecV.at19 DecV.at20 DecV.at21 DecV.at22 DecV.at23 DecV.at24 DecV.at25 DecV.at26 DecV.at27 DecV.at28 DecV.at29 DecV.at30 DecV.at31 MsgV.at0 MsgV.at1 MsgV.at2 MsgV.at3 MsgV.at4 MsgV.at5 MsgV.at6 MsgV.at7 MsgV.at8 MsgV.at9 Kn.at0 Kn.at1 Kn.at2 Kn.at3 Kn.at4 Kn.at5 Kn.at6 Kn.at19 Kn.at20
def _root_.Go.Sl.Kn.fin (k : Kn) (e ix a b : Nat) : Kn := { k with epoch := e, index := ix, g0 := a, g1 := b }
instance HasKn.fin (g : Nat) (k : Kn) (e ix a b : Nat) (t : TypeId) (fr : Nat × Nat) : HasKn (Go.Sl.blk g (.cells ((((k.cells.setIfInBounds 0 (vu32 e)).setIfInBounds 2 (vu64 ix)).setIfInBounds 19 (vu64 a)).setIfInBounds 20 (vu64 b)) t fr)) g 0 (k.fin e ix a b) :=
  ⟨fun h hh => ⟨(k.fin e ix a b).cells, t, fr, by rw [hh]; simp only [Hp.one, if_pos]; rfl, fun j v hv => by rwa [Nat.zero_add]⟩⟩
/-- What makes leaves. -/
def MakesSays (x p : Nat) (s : Dp) (k : Kn) (index : Nat) (F : Asn) (w0 : World) (e : Ending) (w' : World) : Prop :=
  ∃ (C : Option Addr) (c : Nat) (ys : List MsgV) (G : Asn), e = .returned (.tuple #[.slice C k.many k.many, .int .i64 0]) ∧ ys.length = k.many ∧ (∀ i (h : i < ys.length), ActOf G (s.makes k index) ys[i] i) ∧
    DecSt x p { s with kn := s.makes k index, seals := false } (rowA 98 16 (.slice C k.many c) k.many (ys.flatMap fun y => y.cells.toList) * (G * F)) w0 w'
set_option maxRecDepth 4000 in
set_option maxHeartbeats 4000000 in
theorem makes_spec (x p : Nat) (s : Dp) (k : Kn) (l : List Nat) (index : Nat) (hs : DpOk s) (hk : KnOk k) (hl : ChainOf k l) (hin : ∀ n ∈ l, (s.an n).isSome = true) (hix : index ≤ 2) (hho : k.holder ≤ 4) (w w0 : World) (F : Asn) (m : DecSt x p s F w0 w) :
    Calls Tryz.prog 132 #[ptr x, .agg k.cells, .int .u64 (index : Int)] w (MakesSays x p s k index F w0) := by
  obtain ⟨v, D, g, j, ks, b, G, hat, m⟩ := m
  obtain rfl := hat.pd
  have hm4 := hk.many
  have hmi : (k.many : Int) ≤ 4 := by omega
  have hm0 : (0 : Int) ≤ (k.many : Int) := by omega
  have Hs := Lib.hid hs
  have Hk := Lib.hid hk
  have Hl := Lib.hid hl
  have Hin := Lib.hid hin
  have Hat := Lib.hid hat
  clear hs hk hl hin hat
  go_enter Tryz.func132, Tryz.ntmps132
  go_wp2_with first | (refine wpList_load_kn rfl rfl rfl ?_) | (refine wpList_store_kn0 rfl rfl rfl rfl rfl ?_; intro w3 m3)
  go_loopg [16] k.many (fun gk iv wr => ∃ i : Nat, i ≤ k.many ∧ gk = k.many - i ∧ iv = .int .i64 (i : Int) ∧ Mod wr w0 (Go.Sl.blk w.heap.size (.cells (s.livesN k i).cells 171) * (decB x v * (diskA v.pd D * (jourA j v.pd v.name b.length * (G * F))))))
  case atStart => exact ⟨0, by omega, rfl, rfl, inferInstance⟩
  case round =>
    obtain ⟨i, hi, hgk, rfl, m1⟩ := hrel
    by_cases hlt : i < k.many
    · have hii : (i : Int) < (k.many : Int) := by omega
      have hi0 : (0 : Int) ≤ (i : Int) := by omega
      have hi4 : (i : Int) < 4 := by omega
      have hll := Hl.out
      have hcl : k.c i ∈ l := by
        have h1 : i < l.length := by rw [← hll.many]; exact hlt
        rw [hll.c, List.getD_eq_getElem?_getD, List.getElem?_eq_getElem h1]; exact List.getElem_mem _
      have hn4 := hll.c4 i
      have hsame := s.livesN_same k i
      have hlives := (Dp.livesN_ok Hs.out Hk.out i).livesL
      have hcell : (s.livesN k i).cells[7 + i]? = some (vu8 (k.c i)) := by
        rw [(s.livesN k i).atChain i (by omega)]
        show some (vu8 ((s.livesN k i).chain.getD i 0)) = _
        rw [hsame.chain]; rfl
      have hnext : s.livesN k (i + 1) = { s.livesN k i with lives := (s.livesN k i).lives.set i (s.numOf (k.c i)) } := rfl
      have hsome := Hin.out _ hcl
      have hA := Hat.out.ans (k.c i) hn4
      have hvA := v.atA (k.c i) hn4
      have hn5 : (k.c i : Int) < 5 := by omega
      have hnum : Hid (∀ y has, s.an (k.c i) = some (MsgV.ans y has) → s.numOf (k.c i) = y.num) := fun y has h => by unfold Dp.numOf; rw [h]; rfl
      have Hset := Lib.hid fun n => Kn.set_l hlives i n (by omega)
      have hc15 := (s.livesN k i).atLives i (by omega)
      clear hll hcl hsame hlives
      revert hnext hnum Hset
      generalize s.livesN k i = kk at *
      generalize s.numOf (k.c i) = num at *
      generalize k.c i = n at *
      intro hnext hnum Hset
      have Hnext := Lib.hid hnext
      clear hnext
      generalize kk.l i = old at *
      revert hsome hnum
      generalize s.an n = an at *
      generalize v.a n = va at *
      cases hA with
      | no => intro h; cases h
      | @yes ga y has h1 h2 h3 =>
        intro _ hnum
        have hny := hnum.out _ _ rfl
        subst hny
        clear hnum
        have hvP : v.cells[27 + n]? = some (ptr ga) := hvA
        clear hvA
        go_wp2_with fail
        go_roundg (k.many - (i + 1))
        case measure => omega
        case rel =>
          refine ⟨i + 1, by omega, rfl, by go_num, ?_⟩
          rw [Hnext.out, ← Hset.out]
          exact Mod.to (m := inferInstance) (by show _ = Go.Sl.blk w.heap.size (.cells (kk.cells.setIfInBounds (15 + i) (vu32 y.num)) 171 (0, 0)) * (decB x v * (diskA v.pd D * (jourA j v.pd v.name b.length * (G * F)))); rw [emp_sep])
    · have htN : i = k.many := by omega
      subst htN
      have hii : ¬ ((k.many : Int) < (k.many : Int)) := by omega
      have hkk := Dp.livesN_ok Hs.out Hk.out k.many
      have hmk : s.makes k index = (s.livesN k k.many).fin (s.livesN k k.many).most index (s.livesN k k.many).holder (s.livesN k k.many).stamp := rfl
      have Hmk := Lib.hid hmk
      have Hkm : Hid ((s.makes k index).many = k.many) := (s.livesN_same k k.many).many
      have Hok := Lib.hid (Dp.makes_ok Hs.out Hk.out (show index < 18446744073709551616 by omega))
      have Hmy : Hid (KnMay (s.makes k index)) := may_of (Dp.makes_chain Hl.out index) (by have := (s.livesN_same k k.many).holder; show (s.livesN k k.many).holder ≤ 4; omega) (Nat.le_refl _)
      clear hmk
      generalize s.livesN k k.many = kk at *
      have hw1 : IntKind.u64.wrap (kk.holder : Int) = (kk.holder : Int) := wrap_u64_nat (by have := hkk.holder; omega)
      have hw2 : IntKind.u64.wrap (kk.stamp : Int) = (kk.stamp : Int) := wrap_u64_nat (by have := hkk.stamp; omega)
      go_wp2_with first | (refine wpList_load_kn rfl rfl rfl ?_)
      refine calls_gen (w0 := w0) ?_
      intro w7 m7
      simp only [emp_sep] at m7
      refine (keeps_spec x j v D g ks b (kk.fin kk.most index kk.holder kk.stamp) (by rw [← Hmk.out]; exact ⟨Hok.out, Hmy.out⟩) _ w0 _ Hat.out.pj Hat.out.ok (Mod.pull3 (decB x v) (diskA v.pd D) (jourA j v.pd v.name b.length))).mono ?_
      rintro e w5 ⟨rfl, D2, g2, j2, ks2, b2, nm, nl, ok2, m5⟩
      have Hok2 := Lib.hid ok2
      replace m5 := Mod.dropped (Go.Sl.blk w.heap.size (.cells ((((kk.cells.setIfInBounds 0 (vu32 kk.most)).setIfInBounds 2 (vu64 index)).setIfInBounds 19 (vu64 kk.holder)).setIfInBounds 20 (vu64 kk.stamp)) 171)) (m := m5)
      clear m m1 m7 ok2
      go_wp2_with fail
      refine calls_gen (w0 := w0) ?_
      intro w7 m7
      simp only [emp_sep] at m7
      obtain ⟨v7, hv7⟩ : ∃ v7 : DecV, v7 = { v with pj := some j2, name := nm, lines := nl, kn := kk.fin kk.most index kk.holder kk.stamp, seals := false } := ⟨_, rfl⟩
      have m8 : Mod w7 w0 (decB x v7 * (diskA v.pd D2 * (jourA j2 v.pd nm b2.length * (G * F)))) := Mod.to (m := m7) (by subst hv7; show _ * _ = Go.Sl.blk x _ * _; first | rfl | ac_rfl)
      have hk7 : v7.kn = s.makes k index := by rw [hv7, Hmk.out]
      have Hv7 := Lib.hid hv7
      have hG := goes_spec x v7 w7 w0 _ (by rw [hk7]; exact Hok.out) m8
      rw [hk7, Hkm.out] at hG
      have Hk7 := Lib.hid hk7
      clear m5 m7 m8 hv7 hk7
      refine hG.mono ?_
      rintro e w9 ⟨C, c, ys, G9, rfl, hys, hact, m9⟩
      go_wp2_with fail
      go_ret2
      obtain ⟨q1, q2, q3, q4, q5, q6, q7, q8, q9, q10⟩ := Hok2.out
      have hA := Hat.out
      have hv := Hv7.out
      refine ⟨C, c, ys, G9, rfl, hys, hact, v7, D2, g2, j2, ks2, b2, G, ⟨by rw [hv], by rw [hv], Hk7.out, by rw [hv], by rw [hv]; exact hA.jn, by rw [hv]; exact hA.join, fun n hn => ?_, ?_⟩, ?_⟩
      · rw [hv]; exact hA.ans n hn
      · rw [hv]; exact ⟨q1, q2, q3, q4, q5, q6, q7, q8, q9, q10⟩
      · rw [show v7.name = nm by rw [hv]]; exact Mod.to (m := m9) (by ac_rfl)
end Go.Proofs.YtkdiejbpleojnaaGreatDoor
namespace Go.Sl
open Go
/-- S knows one cell. -/
class CellAt (S : Asn) (g o : Nat) (v : outParam Value) : Prop where
  cell : ∀ h, S.says h → ∃ c e f, h g = some (.cells c e f) ∧ c[o]? = some v
instance CellAt.left (A B : Asn) (g o : Nat) (v : Value) [ha : CellAt A g o v] : CellAt (A * B) g o v :=
  ⟨by rintro h ⟨a, b, _, rfl, h1, _⟩; obtain ⟨c, e, f, h3, h4⟩ := ha.cell a h1; exact ⟨c, e, f, by simp [Hp.join, h3], h4⟩⟩
instance CellAt.right (A B : Asn) (g o : Nat) (v : Value) [hb : CellAt B g o v] : CellAt (A * B) g o v := by
  rw [sep_comm]; exact CellAt.left B A g o v
theorem cellAt_of {w w0 : World} {S : Asn} {g o : Nat} {v : Value} [m : Mod w w0 S] [c : CellAt S g o v] : w.cell? ⟨g, o, none⟩ = some v := by
  obtain ⟨a, b, _, hj, ha, _⟩ := m.says
  obtain ⟨c, e, f, h3, h4⟩ := c.cell a ha
  have hw : w.heap[g]? = some (.cells c e f) := by show hp w g = _; rw [hj]; simp [Hp.join, h3]
  unfold World.cell?
  simp only [hw]
  exact h4
theorem reads_at_cell {S : Asn} {bn o n : Nat} {xs : List Value} (r : Reads S (some ⟨bn, o, none⟩) n xs) (hn : 0 < n) (j : Nat) {u : Value} (hu : xs[j]? = some u) : CellAt S bn (o + j) u :=
  ⟨fun h hh => by
    obtain ⟨ad, ha, _, hc⟩ := r.cell h hh hn
    injection ha with ha
    subst ha
    exact hc j u hu⟩
end Go.Sl
namespace Go.Proofs.YtkdiejbpleojnaaGreatDoor
open Go.RowKit Go.Sl
attribute [local go_sem] cell_of cellAt_of frozen_of zero_names DecV.at0 DecV.at1 DecV.at2 DecV.at3 DecV.at4 DecV.at5 DecV.at6 DecV.at7 DecV.at8 DecV.at9 DecV.at10 DecV.at11 DecV.at12 DecV.at13 DecV.at14 DecV.at15 DecV.at16 DecV.at17 DecV.at18 DecV.at19 DecV.at20 DecV.at21 DecV.at22 DecV.at23 DecV.at24 DecV.at25 DecV.at26 DecV.at27 DecV.at28 DecV.at29 DecV.at30 DecV.at31 MsgV.at0 MsgV.at1 MsgV.at2 MsgV.at3 MsgV.at4 MsgV.at5 MsgV.at6 MsgV.at7 MsgV.at8 Kn.at0 Kn.at1 Kn.at2 Kn.at3 Kn.at4 Kn.at5 Kn.at6
/-- What Decide leaves. -/
def RSays (x p : Nat) (s : Dp) (F : Asn) (w0 : World) (e : Ending) (w' : World) : DecRes → Prop
  | .state => e = .returned (.tuple #[.slice none 0 0, .int .i64 9]) ∧ DecSt x p s F w0 w'
  | .made k => ∃ (C : Option Addr) (c : Nat) (ys : List MsgV) (G : Asn), e = .returned (.tuple #[.slice C k.many k.many, .int .i64 0]) ∧ ys.length = k.many ∧ (∀ i (h : i < ys.length), ActOf G k ys[i] i) ∧
      DecSt x p { s with kn := k, seals := false } (rowA 98 16 (.slice C k.many c) k.many (ys.flatMap fun y => y.cells.toList) * (G * F)) w0 w'
  | .lost => e = .returned (.tuple #[.slice none 0 0, .int .i64 0]) ∧ DecSt x p { s with kn := { s.kn with lost := true }, seals := false } F w0 w'
theorem MakesSays.res {x p : Nat} {s : Dp} {k : Kn} {index : Nat} {F : Asn} {w0 : World} {e : Ending} {w' : World} (h : MakesSays x p s k index F w0 e w') : RSays x p s F w0 e w' (.made (s.makes k index)) := by
  have hm : (s.makes k index).many = k.many := (s.livesN_same k k.many).many
  obtain ⟨C, c, ys, G, h1, h2, h3, h4⟩ := h
  exact ⟨C, c, ys, G, by rw [hm]; exact h1, by rw [hm]; exact h2, h3, by rw [hm]; exact h4⟩
def _root_.Go.Sl.Kn.gone (k : Kn) : Kn := { k with lost := true }
instance HasKn.gone (g : Nat) (k : Kn) (t : TypeId) (fr : Nat × Nat) : HasKn (Go.Sl.blk g (.cells (k.cells.setIfInBounds 5 (.bool true)) t fr)) g 0 k.gone :=
  ⟨fun h hh => ⟨k.gone.cells, t, fr, by rw [hh]; simp only [Hp.one, if_pos]; rfl, fun j v hv => by rwa [Nat.zero_add]⟩⟩
theorem gone_ok {k : Kn} (h : KnOk k) : KnOk k.gone := ⟨h.epoch, h.most, h.index, h.holder, h.stamp, h.many, h.chainL, h.hadL, h.livesL, h.chain, h.had, h.lives, h.g0, h.g1⟩
theorem disk_zero {s : Dp} {k : Kn} (h : s.kn.holder = 0) : s.disk k false = .made (s.makes (k.put (s.kn.c 0) 0) 2) := by simp [Dp.disk, h]
theorem disk_no {s : Dp} {k : Kn} (h : s.kn.holder ≠ 0) (ha : s.an s.kn.holder = none) : s.disk k false = .state := by simp [Dp.disk, h, ha]
theorem disk_yes {s : Dp} {k : Kn} {a : AnsV} (h : s.kn.holder ≠ 0) (ha : s.an s.kn.holder = some a) (hc : a.has.length = 2 ∧ s.kn.stamp ≤ a.has.getD 0 0 ∧ a.has.getD 0 0 < 4294967296) : s.disk k false = .made (s.makes ({ k with stamp := a.has.getD 0 0 }.put s.kn.holder (a.has.getD 1 0)) 1) := by
  unfold Dp.disk; rw [if_neg (by decide), if_neg h, ha]; simp only; rw [if_pos hc]
theorem disk_lost {s : Dp} {k : Kn} {a : AnsV} (h : s.kn.holder ≠ 0) (ha : s.an s.kn.holder = some a) (hc : ¬ (a.has.length = 2 ∧ s.kn.stamp ≤ a.has.getD 0 0 ∧ a.has.getD 0 0 < 4294967296)) : s.disk k false = .lost := by
  unfold Dp.disk; rw [if_neg (by decide), if_neg h, ha]; simp only; rw [if_neg hc]
theorem once_one {n : Nat} (h1 : 1 ≤ n) (h4 : n ≤ 4) : OnceIn [n] := ⟨by simp, by simp; omega⟩
theorem lost_says {x : Nat} {s : Dp} {v : DecV} {D D2 : DiskSt} {g j g2 j2 nl : Nat} {ks ks2 : List Kn} {b b2 : List UInt8} {nm : ByteArray} {G F : Asn} {w w0 : World} (h : DecAt v.pd s v D g j ks b G) (hkn : v.kn = s.kn) (ok2 : DecOk { v with pj := some j2, name := nm, lines := nl, kn := v.kn.gone } D2 g2 ks2 b2)
    (m : Mod w w0 (Go.Sl.blk x (.cells (({ v with pj := some j2, name := nm, lines := nl, kn := v.kn.gone } : DecV).cells.setIfInBounds 25 (.bool false)) 175 (0, 0)) * (diskA v.pd D2 * (jourA j2 v.pd nm b2.length * (G * F))))) : RSays x v.pd s F w0 (.returned (.tuple #[.slice none 0 0, .int .i64 0])) w .lost := by
  obtain ⟨q1, q2, q3, q4, q5, q6, q7, q8, q9, q10⟩ := ok2
  exact ⟨rfl, { v with pj := some j2, name := nm, lines := nl, kn := v.kn.gone, seals := false }, D2, g2, j2, ks2, b2, G, ⟨rfl, rfl, by show v.kn.gone = _; rw [hkn]; rfl, rfl, h.jn, h.join, h.ans, ⟨q1, q2, q3, q4, q5, q6, q7, q8, q9, q10⟩⟩, m⟩
theorem Kn.set_stamp (k : Kn) (n : Nat) : k.cells.setIfInBounds 4 (vu32 n) = ({ k with stamp := n } : Kn).cells := rfl
theorem stamp_ok {k : Kn} (h : KnOk k) {n : Nat} (hn : n < 4294967296) : KnOk { k with stamp := n } := ⟨h.epoch, h.most, h.index, h.holder, hn, h.many, h.chainL, h.hadL, h.livesL, h.chain, h.had, h.lives, h.g0, h.g1⟩
set_option maxRecDepth 4000 in
set_option maxHeartbeats 4000000 in
theorem disk_spec (x p : Nat) (s : Dp) (k : Kn) (missing : Bool) (hs : DpOk s) (hk : KnOk k) (hl : ChainOf k []) (hmiss : missing = false → ∀ i, i < s.kn.many → (s.an (s.kn.c i)).isSome = true) (hmany : 0 < s.kn.many) (hho : k.holder ≤ 4) (w w0 : World) (F : Asn) (m : DecSt x p s F w0 w) :
    Calls Tryz.prog 133 #[ptr x, .agg k.cells, .bool missing] w fun e w' => RSays x p s F w0 e w' (s.disk k missing) := by
  obtain ⟨v, D, g, j, ks, b, G, hat, m⟩ := m
  obtain rfl := hat.pd
  have hkn := hat.kn
  have Hs := Lib.hid hs
  have Hk := Lib.hid hk
  have Hl := Lib.hid hl
  have Hat := Lib.hid hat
  have Hmiss := Lib.hid hmiss
  have hkm : k.many < 4 := by rw [hl.many]; decide
  clear hs hk hl hat hmiss
  cases missing with
  | true =>
    clear hkn
    go_enter Tryz.func133, Tryz.ntmps133
    go_wp2_with first | (refine wpList_load_kn rfl rfl rfl ?_) | (refine wpList_store_kn0 rfl rfl rfl rfl rfl ?_; intro w3 m3)
    go_ret2
    exact ⟨rfl, v, D, g, j, ks, b, G, Hat.out, Mod.dropped (Go.Sl.blk w.heap.size (.cells k.cells 171))⟩
  | false =>
    by_cases hh : s.kn.holder = 0
    · rw [disk_zero hh]
      have hn : ∃ n, s.kn.c 0 = n ∧ 1 ≤ n ∧ n ≤ 4 ∧ (s.an n).isSome = true := by
        have hc := Hs.out.chain
        have hl0 : 0 < s.kn.nodes.length := by rw [← hc.many]; exact hmany
        have := hc.once.2 _ (List.getElem_mem hl0)
        have e : s.kn.c 0 = s.kn.nodes[0] := by rw [hc.c, List.getD_eq_getElem?_getD, List.getElem?_eq_getElem hl0]; rfl
        exact ⟨s.kn.c 0, rfl, by rw [e]; exact this.1, by rw [e]; exact this.2, Hmiss.out rfl 0 hmany⟩
      obtain ⟨n, hcn, hn1, hn4, hsome⟩ := hn
      have hv7 : v.cells[11]? = some (vu8 n) := by rw [← hcn, ← hkn]; exact v.atC 0 (by decide)
      have hv3 : v.cells[7]? = some (vu8 0) := by rw [v.at7, hkn, hh]
      rw [hcn]
      have Hp := Lib.hid (Hk.out.put (n := n) (has := 0) hn4 (by decide) hkm)
      have Hc := Lib.hid (Hl.out.put (n := n) (has := 0) (once_one hn1 hn4))
      have Hkn := Lib.hid hkn
      have Hh := Lib.hid hh
      clear hkn hcn hh
      go_enter Tryz.func133, Tryz.ntmps133
      go_wp2_with first | (refine wpList_load_kn rfl rfl rfl ?_) | (refine wpList_store_kn0 rfl rfl rfl rfl rfl ?_; intro w3 m3)
      go_wp2_with first | (go_at_call 131; refine (put_spec w.heap.size k n 0 hkm Hk.out.chainL Hk.out.hadL _ w0 _ inferInstance).mono ?_; rintro e w4 ⟨rfl, m4⟩) | (refine wpList_load_kn rfl rfl rfl ?_)
      refine (makes_spec x v.pd s (k.put n 0) [n] 2 Hs.out Hp.out Hc.out (by simpa using hsome) (by decide) hho w4 w0 F ⟨v, D, g, j, ks, b, G, Hat.out, Mod.drop (m := m4)⟩).mono ?_
      rintro e w6 ⟨C, c, ys, G9, rfl, hys, hact, hst⟩
      go_wp2_with fail
      go_ret2
      exact MakesSays.res ⟨C, c, ys, G9, rfl, hys, hact, hst⟩
    · have hh4 := Hs.out.holder
      have hv3 : v.cells[7]? = some (vu8 s.kn.holder) := by rw [v.at7, hkn]
      have hvA := v.atA s.kn.holder hh4
      have hA := Hat.out.ans s.kn.holder hh4
      have hd1 : s.an s.kn.holder = none → s.disk k false = .state := disk_no hh
      have hd2 := fun a => @disk_yes s k a hh
      have hd3 := fun a => @disk_lost s k a hh
      have hst : v.cells[8]? = some (vu32 s.kn.stamp) := by rw [v.at8, hkn]
      have hlt : ∀ a, s.an s.kn.holder = some a → AnsOk a := fun a h => Hs.out.an _ a h
      have hsm0 : ∀ a, s.an s.kn.holder = some a → ∀ q ∈ [s.kn.holder], (s.an q).isSome = true := fun a h q hq => by rw [List.mem_singleton.1 hq, h]; rfl
      revert hd1 hd2 hd3 hlt hsm0
      generalize s.an s.kn.holder = an at *
      generalize v.a s.kn.holder = va at *
      intro hd1 hd2 hd3 hlt hsm0
      cases hA with
      | no =>
        rw [hd1 rfl]
        have hvP : v.cells[27 + s.kn.holder]? = some (.pointer none) := hvA
        have hb : ((s.kn.holder : Int) == 0) = false := beq_eq_false_iff_ne.2 (by omega)
        have hb5 : (s.kn.holder : Int) < 5 := by omega
        have Hkn := Lib.hid hkn
        clear hkn hd1 hd2 hd3 hvA
        generalize s.kn.holder = n at *
        go_enter Tryz.func133, Tryz.ntmps133
        go_wp2_with first | (refine wpList_load_kn rfl rfl rfl ?_) | (refine wpList_store_kn0 rfl rfl rfl rfl rfl ?_; intro w3 m3)
        go_quiet (fail)
        go_wp2_with fail
        go_ret2
        exact ⟨rfl, v, D, g, j, ks, b, G, Hat.out, Mod.dropped (Go.Sl.blk w.heap.size (.cells k.cells 171))⟩
      | @yes ga y has h1 h2 h3 =>
        have hvP : v.cells[27 + s.kn.holder]? = some (ptr ga) := hvA
        have hb : ((s.kn.holder : Int) == 0) = false := beq_eq_false_iff_ne.2 (by omega)
        have hb5 : (s.kn.holder : Int) < 5 := by omega
        obtain ⟨N, hN⟩ : ∃ N, N = has.length := ⟨_, rfl⟩
        have hc9 : y.cells[9]? = some (.slice y.haA N y.haC) := by rw [hN, ← h2]; rfl
        rw [← hN] at h3
        have Hkn := Lib.hid hkn
        clear hkn hd1 hvA h2
        by_cases hN2 : N = 2
        · subst hN2
          obtain ⟨q0, q1, rfl⟩ : ∃ q0 q1, has = [q0, q1] := by
            match has, hN with
            | [q0, q1], _ => exact ⟨q0, q1, rfl⟩
          obtain ⟨ad, hA, hsp, hcl⟩ := reads_cell m (reads_lift inferInstance h3) (by decide)
          obtain ⟨bn, on_, sp⟩ := ad
          simp only at hsp
          subst hsp
          rw [hA] at hc9
          rw [hA] at h3
          have hq0 : CellAt G bn on_ (vu64 q0) := reads_at_cell h3 (by decide) 0 rfl
          have hq1 : CellAt G bn (on_ + 1) (vu64 q1) := reads_at_cell h3 (by decide) 1 rfl
          have hw : IntKind.u64.wrap (s.kn.stamp : Int) = (s.kn.stamp : Int) := wrap_u64_nat (by have := Hs.out.kn.stamp; omega)
          clear hcl hN
          by_cases hc : s.kn.stamp ≤ q0 ∧ q0 < 4294967296
          · have hc1 : decide (s.kn.stamp ≤ q0) = true := decide_eq_true hc.1
            have hc2 : decide ((q0 : Int) < 4294967296) = true := by rw [decide_eq_true_iff]; omega
            rw [hd2 _ rfl ⟨rfl, hc.1, hc.2⟩]
            have hq32 := hc.2
            have hq1lt : q1 < 18446744073709551616 := (hlt _ rfl).has q1 (by simp [MsgV.ans])
            have hsm := hsm0 _ rfl
            have hn1 : 1 ≤ s.kn.holder := by omega
            have hn4 : s.kn.holder ≤ 4 := hh4
            clear hlt hsm0
            have hw2 : IntKind.u32.wrap (q0 : Int) = (q0 : Int) := by rw [IntKind.wrap_u32]; omega
            clear hd2 hd3 hc
            generalize s.kn.holder = n at *
            generalize s.kn.stamp = st at *
            go_enter Tryz.func133, Tryz.ntmps133
            go_wp2_with first | (refine wpList_load_kn rfl rfl rfl ?_) | (refine wpList_store_kn0 rfl rfl rfl rfl rfl ?_; intro w3 m3)
            go_quiet (fail)
            go_wp2_with fail
            go_quiet (fail)
            go_wp2_with fail
            go_region_held3 (fun u => u.cell? ⟨x, 7, none⟩ = some (vu8 n) ∧ u.cell? ⟨ga, 9, none⟩ = some (.slice (some ⟨bn, on_, none⟩) 2 y.haC) ∧ u.cell? ⟨bn, on_ + 1, none⟩ = some (vu64 q1)) (refine ⟨?_, ?_, ?_⟩ <;> (first | (rw [cell_of, hv3]; done) | (rw [cell_of, hc9]; done) | (rw [cellAt_of]; done)))
              (first | (go_at_call 131; refine calls_gen (w0 := w0) ?_; intro w8 m8; rw [Kn.set_stamp] at m8; refine (put_spec w.heap.size { k with stamp := q0 } n q1 hkm Hk.out.chainL Hk.out.hadL _ w0 _ (Mod.pull (m := m8) (Go.Sl.blk w.heap.size (.cells ({ k with stamp := q0 } : Kn).cells 171)))).mono ?_; rintro e w4 ⟨rfl, m4⟩))
            rw [emp_sep] at m4
            go_wp2_with first | (refine wpList_load_kn rfl rfl rfl ?_)
            refine (makes_spec x v.pd s (({ k with stamp := q0 } : Kn).put n q1) [n] 1 Hs.out ((stamp_ok Hk.out hq32).put hn4 hq1lt hkm) (ChainOf.put (l := []) (k := { k with stamp := q0 }) ⟨Hl.out.chain, Hl.out.many, Hl.out.once⟩ (once_one hn1 hn4)) hsm (by decide) hho w4 w0 F ⟨v, D, g, j, ks, b, G, Hat.out, Mod.drop (m := m4)⟩).mono ?_
            rintro e w6 ⟨C, c, ys, G9, rfl, hys, hact, hst⟩
            go_wp2_with fail
            go_ret2
            exact MakesSays.res ⟨C, c, ys, G9, rfl, hys, hact, hst⟩
          · rw [hd3 _ rfl (fun h => hc ⟨h.2.1, h.2.2⟩)]
            have hcc : decide (s.kn.stamp ≤ q0) = false ∨ decide (s.kn.stamp ≤ q0) = true ∧ decide ((q0 : Int) < 4294967296) = false := by
              by_cases h : s.kn.stamp ≤ q0
              · right; refine ⟨by rw [decide_eq_true_iff]; omega, ?_⟩
                rw [decide_eq_false_iff_not]; intro h2; exact hc ⟨h, by omega⟩
              · left; rw [decide_eq_false_iff_not]; omega
            clear hd2 hd3 hc
            generalize s.kn.holder = n at *
            generalize s.kn.stamp = st at *
            rcases hcc with hc1 | ⟨hc1, hc2⟩
            all_goals
              go_enter Tryz.func133, Tryz.ntmps133
              go_wp2_with first | (refine wpList_load_kn rfl rfl rfl ?_) | (refine wpList_store_kn0 rfl rfl rfl rfl rfl ?_; intro w3 m3)
              go_quiet (fail)
              go_wp2_with fail
              go_quiet (fail)
              go_wp2_with first | (refine wpList_load_kn rfl rfl rfl ?_) | (refine wpList_store_kn0 rfl rfl rfl rfl rfl ?_; intro w3 m3)
              refine calls_gen (w0 := w0) ?_
              intro w7 m7
              simp only [emp_sep] at m7
              refine (keeps_spec x j v D g ks b v.kn.gone (by rw [Hkn.out]; exact ⟨gone_ok Hs.out.kn, may_of (k := s.kn.gone) ⟨Hs.out.chain.chain, Hs.out.chain.many, Hs.out.chain.once⟩ Hs.out.holder Hs.out.le⟩) _ w0 _ Hat.out.pj Hat.out.ok (Mod.pull3 (decB x v) (diskA v.pd D) (jourA j v.pd v.name b.length))).mono ?_
              rintro e w5 ⟨rfl, D2, g2, j2, ks2, b2, nm, nl, ok2, m5⟩
              replace m5 := Mod.dropped (Go.Sl.blk w.heap.size (.cells (v.kn.cells.setIfInBounds 5 (.bool true)) 171)) (m := m5)
              clear m m7
              go_wp2_with fail
              go_ret2
              exact lost_says Hat.out Hkn.out ok2 (Mod.to (m := inferInstance) (by simp only [emp_sep]))
        · rw [hd3 _ rfl (by rintro ⟨e, _⟩; exact hN2 (hN.trans e))]
          have hb2 : ((N : Int) == 2) = false := beq_eq_false_iff_ne.2 (by omega)
          clear hd2 hd3 hN
          generalize s.kn.holder = n at *
          go_enter Tryz.func133, Tryz.ntmps133
          go_wp2_with first | (refine wpList_load_kn rfl rfl rfl ?_) | (refine wpList_store_kn0 rfl rfl rfl rfl rfl ?_; intro w3 m3)
          go_quiet (fail)
          go_wp2_with fail
          go_quiet (fail)
          go_wp2_with first | (refine wpList_load_kn rfl rfl rfl ?_) | (refine wpList_store_kn0 rfl rfl rfl rfl rfl ?_; intro w3 m3)
          refine calls_gen (w0 := w0) ?_
          intro w7 m7
          simp only [emp_sep] at m7
          refine (keeps_spec x j v D g ks b v.kn.gone (by rw [Hkn.out]; exact ⟨gone_ok Hs.out.kn, may_of (k := s.kn.gone) ⟨Hs.out.chain.chain, Hs.out.chain.many, Hs.out.chain.once⟩ Hs.out.holder Hs.out.le⟩) _ w0 _ Hat.out.pj Hat.out.ok (Mod.pull3 (decB x v) (diskA v.pd D) (jourA j v.pd v.name b.length))).mono ?_
          rintro e w5 ⟨rfl, D2, g2, j2, ks2, b2, nm, nl, ok2, m5⟩
          replace m5 := Mod.dropped (Go.Sl.blk w.heap.size (.cells (v.kn.cells.setIfInBounds 5 (.bool true)) 171)) (m := m5)
          clear m m7
          go_wp2_with fail
          go_ret2
          exact lost_says Hat.out Hkn.out ok2 (Mod.to (m := inferInstance) (by simp only [emp_sep]))
end Go.Proofs.YtkdiejbpleojnaaGreatDoor
namespace Go.Proofs.YtkdiejbpleojnaaGreatDoor
open Go.RowKit Go.Sl
attribute [local go_sem] cell_of frozen_of zero_names DecV.at0 DecV.at1 DecV.at2 DecV.at3 DecV.at4 DecV.at5 DecV.at6 DecV.at7 DecV.at8 DecV.at9 DecV.at10 DecV.at11 DecV.at12 DecV.at13 DecV.at14 DecV.at15 DecV.at16 DecV.at17 DecV.at18 DecV.at19 DecV.at20 DecV.at21 DecV.at22 DecV.at23 DecV.at24 DecV.at25 DecV.at26 DecV.at27 DecV.at28 DecV.at29 DecV.at30 DecV.at31 MsgV.at0 MsgV.at1 MsgV.at2 MsgV.at3 MsgV.at4 MsgV.at5 MsgV.at6 MsgV.at7 MsgV.at8 MsgV.at9 Kn.at0 Kn.at1 Kn.at2 Kn.at3 Kn.at4 Kn.at5 Kn.at6 Kn.at7 Kn.at8 Kn.at9 Kn.at10 Kn.at11 Kn.at12 Kn.at13 Kn.at14 Kn.at15 Kn.at16 Kn.at17 Kn.at18 Kn.at19 Kn.at20
theorem has_lift {S' S : Asn} {g : Nat} {o : Obj} (s : Sub S' S) (r : Has S g o) : Has S' g o := by
  refine ⟨fun h hh => ?_⟩
  obtain ⟨a, b, _, hj, ha, _⟩ := s.sub h ⟨h, Hp.none, fun _ => .inr rfl, by funext k; simp [Hp.join, Hp.none], hh, trivial⟩
  have := r.has a ha
  rw [hj]; simp [Hp.join, this]
theorem dall_both (x : Nat) (v : DecV) (s : Dp) (i : Nat) (hi : i < 4) (hkn : v.kn = s.kn) (hc4 : s.kn.c i ≤ 4) {G : Asn} (hA : AnsAt G (v.a (s.kn.c i)) (s.an (s.kn.c i))) (hep : s.kn.epoch < 4294967296) (w w0 : World) (S : Asn) (m : Mod w w0 S) [hx : Has S x (.cells v.cells 175 (0, 0))] [hG : Sub S G] :
    Calls Tryz.prog 130 #[ptr x, .int .i64 (i : Int)] w fun e w' => e = .returned (.bool (s.allB i)) ∧ Mod w' w0 S := by
  rw [← hkn] at hc4 hA hep
  unfold Dp.allB
  rw [← hkn]
  generalize hva : v.a (v.kn.c i) = va at hA
  generalize s.an (v.kn.c i) = an at hA
  cases hA with
  | no => exact dall_nil x v i hi hc4 hva w w0 S m
  | @yes g y has h1 h2 h3 =>
    have := dall_some x v i hi hc4 g y hva hep w w0 S m (hy := has_lift hG h1)
    refine this.mono ?_
    rintro e w' ⟨he, m'⟩
    refine ⟨?_, m'⟩
    rw [he]
    have e1 : ((y.level : Int) == 1) = decide (y.level = 1) := by rw [Bool.eq_iff_iff]; simp; omega
    have e2 : ((v.kn.d i : Int) != 18446744073709551615) = !decide (v.kn.d i = none64) := by unfold none64; rw [Bool.eq_iff_iff]; simp; omega
    have e3 : ((v.kn.index : Int) == 0) = decide (v.kn.index = 0) := by rw [Bool.eq_iff_iff]; simp
    rw [e1, e2, e3]
    rfl
theorem RSays.shape {x p : Nat} {s : Dp} {F : Asn} {w0 : World} {e : Ending} {w' : World} {r : DecRes} (h : RSays x p s F w0 e w' r) : ∃ A n c z, e = .returned (.tuple #[.slice A n c, .int .i64 z]) := by
  cases r with
  | state => exact ⟨_, _, _, _, h.1⟩
  | lost => exact ⟨_, _, _, _, h.1⟩
  | made k => obtain ⟨C, c, ys, G, h1, _⟩ := h; exact ⟨_, _, _, _, h1⟩
theorem put_none (g : Nat) (k : Kn) (n : Nat) (hm : k.many < 4) (hcl : k.chain.length = 4) (hdl : k.had.length = 4) (w w0 : World) (F : Asn) (m : Mod w w0 (Go.Sl.blk g (.cells k.cells 171 (0, 0)) * F)) :
    Calls Tryz.prog 131 #[ptr g, .int .u8 (n : Int), .int .u64 18446744073709551615] w fun e w' => e = .returned (.tuple #[]) ∧ Mod w' w0 (Go.Sl.blk g (.cells (k.put n none64).cells 171 (0, 0)) * F) :=
  put_spec g k n none64 hm hcl hdl w w0 F m
theorem had_kn {gb : Nat} {t : TypeId} {fr : Nat × Nat} {k : Kn} (h : k.had.length = 4) : HasKn (Go.Sl.blk gb (.cells (k.cells.setIfInBounds 11 (.int .u64 0)) t fr)) gb 0 { k with had := k.had.set 0 0 } := by
  obtain ⟨q1, q2, q3, q4, q5, q6, q7, ch, hd, lv, q11, q12⟩ := k
  simp only at h
  match hd, h with
  | [a, b, c, d], _ => exact ⟨fun h hh => ⟨({ epoch := q1, most := q2, index := q3, holder := q4, stamp := q5, lost := q6, many := q7, chain := ch, had := [0, b, c, d], lives := lv, g0 := q11, g1 := q12 } : Kn).cells, t, fr, by rw [hh]; simp only [Hp.one, if_pos]; rfl, fun j v hv => by rwa [Nat.zero_add]⟩⟩
theorem had0_ok {k : Kn} (h : KnOk k) : KnOk { k with had := k.had.set 0 0 } :=
  ⟨h.epoch, h.most, h.index, h.holder, h.stamp, h.many, h.chainL, by rw [List.length_set]; exact h.hadL, h.livesL, h.chain, fun x hx => by rcases mem_set_or hx with e | e; exact h.had x e; omega, h.lives, h.g0, h.g1⟩
theorem code_gen {P : Program} {c : Code} {K : Exit → Act → World → Prop} {a : Act} {w w0 : World} {S : Asn} [m : Mod w w0 S] (h : ∀ u, Mod u w0 S → Code.wp P c K a u) : Code.wp P c K a w := h w m
theorem base_cells (k : Kn) : (((((((((k.cells.setIfInBounds 6 (.int .i64 0)).setIfInBounds 7 (.int .u8 0)).setIfInBounds 8 (.int .u8 0)).setIfInBounds 9 (.int .u8 0)).setIfInBounds 10 (.int .u8 0)).setIfInBounds 11 (.int .u64 0)).setIfInBounds 12 (.int .u64 0)).setIfInBounds 13 (.int .u64 0)).setIfInBounds 14 (.int .u64 0)) = k.base.cells := by
  unfold Kn.cells
  simp only [List.setIfInBounds_toArray, List.set_cons_zero, List.set_cons_succ]
  rfl
theorem lacks_succ (s : Dp) (i : Nat) : s.lacksN (i + 1) = (s.lacksN i || (s.an (s.kn.c i)).isNone) := by
  unfold Dp.lacksN
  rw [List.range_succ, List.any_append]
  simp
set_option maxRecDepth 4000 in
set_option maxHeartbeats 4000000 in
theorem decide_state (x p : Nat) (s : Dp) (hsl : s.seals = false) (w w0 : World) (F : Asn) (m : DecSt x p s F w0 w) : Calls Tryz.prog 52 #[ptr x] w fun e w' => e = .returned (.tuple #[.slice none 0 0, .int .i64 9]) ∧ DecSt x p s F w0 w' := by
  obtain ⟨v, D, g, j, ks, b, G, hat, m⟩ := m
  obtain rfl := hat.pd
  have hsv : v.seals = false := by rw [hat.seals]; exact hsl
  have Hat := Lib.hid hat
  clear hat hsl
  go_enter Tryz.func52, Tryz.ntmps52
  go_wp2_with first | (go_at_call 124; refine (dthere_spec x v _ w0 _ inferInstance).mono ?_; rintro e w1 ⟨rfl, m1⟩)
  go_ret2
  exact ⟨rfl, v, D, g, j, ks, b, G, Hat.out, m1⟩
set_option maxRecDepth 4000 in
set_option maxHeartbeats 4000000 in
theorem decide_spec (x p : Nat) (s : Dp) (hs : DpOk s) (hsl : s.seals = true) (w w0 : World) (F : Asn) (m : DecSt x p s F w0 w) : Calls Tryz.prog 52 #[ptr x] w fun e w' => RSays x p s F w0 e w' s.decide := by
  obtain ⟨v, D, g, j, ks, b, G, hat, m⟩ := m
  obtain rfl := hat.pd
  have hsv : v.seals = true := by rw [hat.seals]; exact hsl
  have hm4 : v.kn.many ≤ 4 := by rw [hat.kn]; exact hs.kn.many
  have hmi : (v.kn.many : Int) ≤ 4 := by omega
  have hm0 : (0 : Int) ≤ (v.kn.many : Int) := by omega
  have Hat := Lib.hid hat
  have Hs := Lib.hid hs
  have Hsl := Lib.hid hsl
  clear hat hs hsl
  go_enter Tryz.func52, Tryz.ntmps52
  go_wp2_with first | (go_at_call 124; refine (dthere_spec x v _ w0 _ inferInstance).mono ?_; rintro e w1 ⟨rfl, m1⟩) | (refine wpList_load_kn rfl rfl rfl ?_) | (refine wpList_store_kn0 rfl rfl rfl rfl rfl ?_; intro w3 m3)
  refine code_gen (w0 := w0) ?_
  intro w4 m4
  simp only [emp_sep] at m4
  generalize w1.heap.size = gb at *
  have m5 : Mod w4 w0 (Go.Sl.blk gb (.cells (s.keepN 0).cells 171) * (decB x v * (diskA v.pd D * (jourA j v.pd v.name b.length * (G * F))))) := by
    rw [show (s.keepN 0) = v.kn.base by rw [Hat.out.kn]; rfl]
    rw [base_cells] at m4
    exact m4
  clear m m1 m3 m4
  go_quiet (fail)
  go_wp2_with fail
  go_loopg [5, 41] v.kn.many (fun gk mv iv wr => ∃ i : Nat, i ≤ v.kn.many ∧ gk = v.kn.many - i ∧ mv = .bool (s.lacksN i) ∧ iv = .int .i64 (i : Int) ∧ Mod wr w0 (Go.Sl.blk gb (.cells (s.keepN i).cells 171) * (decB x v * (diskA v.pd D * (jourA j v.pd v.name b.length * (G * F))))))
  case atStart => exact ⟨0, by omega, rfl, rfl, rfl, inferInstance⟩
  case round =>
    obtain ⟨i, hi, hgk, rfl, rfl, m6⟩ := hrel
    by_cases hlt : i < v.kn.many
    · have hii : (i : Int) < (v.kn.many : Int) := by omega
      have hi0 : (0 : Int) ≤ (i : Int) := by omega
      have hi4 : (i : Int) < 4 := by omega
      have hn4 := Hs.out.c4 i
      have hcell : v.cells[11 + i]? = some (vu8 (s.kn.c i)) := by rw [v.atC i (by omega), Hat.out.kn]
      have hn5 : (s.kn.c i : Int) < 5 := by omega
      have hvA := v.atA (s.kn.c i) hn4
      have Hlack := Lib.hid (lacks_succ s i)
      have hmk : (s.keepN i).many < 4 := by have := s.keepN_many i; omega
      have HkO := Lib.hid (Dp.keepN_ok Hs.out i (by rw [← Hat.out.kn]; omega))
      have HS : Hid (∀ u S, Mod u w0 S → Has S x (.cells v.cells 175 (0, 0)) → Sub S G → Calls Tryz.prog 130 #[ptr x, .int .i64 (i : Int)] u fun e w' => e = .returned (.bool (s.allB i)) ∧ Mod w' w0 S) :=
        fun u S mu hx hG => dall_both x v s i (by omega) Hat.out.kn hn4 (Hat.out.ans _ hn4) Hs.out.kn.epoch u w0 S mu
      go_wp2_with fail
      refine (HS.out _ _ m6 inferInstance inferInstance).mono ?_
      rintro e w5 ⟨rfl, m7⟩
      have hA := Hat.out.ans (s.kn.c i) hn4
      have hall1 : s.an (s.kn.c i) = none → s.allB i = false := by intro h; unfold Dp.allB; rw [h]
      have hix : ∀ y has, s.an (s.kn.c i) = some (MsgV.ans y has) → s.ixOf (s.kn.c i) = y.index := fun y has h => by unfold Dp.ixOf; rw [h]; rfl
      have Hmove : Hid (s.keepN (i + 1) = if s.allB i = true then (s.keepN i).put (s.kn.c i) (s.ixOf (s.kn.c i)) else s.keepN i) := rfl
      clear HS m6
      revert hall1 hix Hlack Hmove
      generalize s.ixOf (s.kn.c i) = ix at *
      generalize s.an (s.kn.c i) = an at *
      generalize v.a (s.kn.c i) = va at *
      generalize s.kn.c i = n at *
      generalize s.keepN i = kk at *
      generalize s.allB i = al at *
      generalize s.lacksN i = lk at *
      intro Hlack hall1 hix Hmove
      cases hA with
      | no =>
        have hvP : v.cells[27 + n]? = some (.pointer none) := hvA
        have h0 := hall1 rfl
        subst h0
        clear hvA hall1 hix
        cases lk
        all_goals
          go_wp2_with fail
          go_roundg (v.kn.many - (i + 1))
          case measure => omega
          case rel => exact ⟨i + 1, by omega, rfl, by rw [Hlack.out]; rfl, by go_num, by rw [Hmove.out, if_neg (by decide)]; exact m7⟩
      | @yes ga y has h1 h2 h3 =>
        have hvP : v.cells[27 + n]? = some (ptr ga) := hvA
        have h0 := hix _ _ rfl
        subst h0
        clear hvA hall1 hix
        cases al
        · cases lk
          all_goals
            go_wp2_with fail
            go_roundg (v.kn.many - (i + 1))
            case measure => omega
            case rel => exact ⟨i + 1, by omega, rfl, by rw [Hlack.out]; rfl, by go_num, by rw [Hmove.out, if_neg (by decide)]; exact m7⟩
        · cases lk
          all_goals
            go_wp2_with (go_at_call 131; refine (put_spec gb kk n y.index hmk HkO.out.chainL HkO.out.hadL _ w0 _ m7).mono ?_; rintro e w8 ⟨rfl, m8⟩)
            go_roundg (v.kn.many - (i + 1))
            case measure => omega
            case rel => exact ⟨i + 1, by omega, rfl, by rw [Hlack.out]; rfl, by go_num, by rw [Hmove.out, if_pos trivial]; exact m8⟩
    · have htN : i = v.kn.many := by omega
      subst htN
      have hii : ¬ ((v.kn.many : Int) < (v.kn.many : Int)) := by omega
      have HkO : Hid (KnOk (s.keepN v.kn.many)) := by rw [Hat.out.kn]; exact Dp.keepN_ok Hs.out _ (Nat.le_refl _)
      have Hkh : Hid ((s.keepN v.kn.many).holder ≤ 4) := by show _ ≤ 4; rw [(keepN_num s v.kn.many).holder]; exact Hs.out.holder
      have HkC : Hid (ChainOf (s.keepN v.kn.many) (s.kept v.kn.many)) := by rw [Hat.out.kn]; exact s.keepN_chain Hs.out.chain.once (by rw [← Hat.out.kn]; exact hm4) _ (Nat.le_refl _)
      have Hd1 : Hid (¬ (0 < (s.keepN v.kn.many).many ∨ v.kn.many = 0) → s.decide = s.disk (s.keepN v.kn.many) (s.lacksN v.kn.many)) := by
        rw [Hat.out.kn]; intro h; unfold Dp.decide; rw [if_neg (by rw [Hsl.out]; decide), if_neg h]
      have Hd2 : Hid ((0 < (s.keepN v.kn.many).many ∨ v.kn.many = 0) → s.decide = (if (s.joinN (s.keepN v.kn.many) s.join.length).many = 0 then .state else if (s.keepN v.kn.many).many = 0 then .made (s.makes { s.joinN (s.keepN v.kn.many) s.join.length with had := (s.joinN (s.keepN v.kn.many) s.join.length).had.set 0 0 } 2) else .made (s.makes (s.joinN (s.keepN v.kn.many) s.join.length) 0))) := by
        rw [Hat.out.kn]; intro h; unfold Dp.decide; rw [if_neg (by rw [Hsl.out]; decide), if_pos h]
      have Hmiss : Hid (s.lacksN v.kn.many = false → ∀ i, i < s.kn.many → (s.an (s.kn.c i)).isSome = true) := by
        rw [Hat.out.kn]
        intro h i hi
        unfold Dp.lacksN at h
        rw [List.any_eq_false] at h
        have := h i (List.mem_range.2 hi)
        cases ha : s.an (s.kn.c i) with
        | none => rw [ha] at this; exact absurd rfl this
        | some a => rfl
      generalize hkk : s.keepN v.kn.many = kk at *
      by_cases hc : 0 < kk.many ∨ v.kn.many = 0
      · have Hd := Hd2.out hc
        rw [← Hat.out.jn] at Hd
        replace Hd := Lib.hid Hd
        clear Hd1 Hd2
        have Hkk := Lib.hid hkk
        clear hkk
        have hfour : (decide (0 < kk.many) = false ∧ ((v.kn.many : Int) == 0) = true ∧ ((kk.many : Int) == 0) = true) ∨ (decide (0 < kk.many) = true ∧ ((kk.many : Int) == 0) = false) := by
          by_cases hq : kk.many = 0
          · exact .inl ⟨by rw [decide_eq_false_iff_not]; omega, by rw [beq_iff_eq]; omega, by rw [beq_iff_eq]; omega⟩
          · exact .inr ⟨by rw [decide_eq_true_iff]; omega, beq_eq_false_iff_ne.2 (by omega)⟩
        have hmk : kk.many ≤ v.kn.many := by rw [← Hkk.out]; exact s.keepN_many _
        have hroom : kk.many + v.jn ≤ 4 := by have := Hs.out.room Hsl.out; rw [← Hat.out.kn, ← Hat.out.jn] at this; omega
        have hjI : (v.jn : Int) ≤ 4 := by omega
        have rJ : Reads G v.jA v.jn (n8s s.join) := Hat.out.join
        have hjn : Hid (v.jn = s.join.length) := Hat.out.jn
        have Hj4 := Lib.hid (Hs.out.jn4 Hsl.out)
        clear hc
        rcases hfour with ⟨hc1, hc2, hc3⟩ | ⟨hc1, hc3⟩
        · have Hkz : Hid (kk.many = 0) := by have := beq_iff_eq.1 hc3; show _ = _; omega
          go_wp2_with fail
          generalize hjA : v.jA = jA at *
          have HjA := Lib.hid hjA
          clear hjA
          go_loopg [90] v.jn (fun gk iv wr => ∃ t : Nat, t ≤ v.jn ∧ gk = v.jn - t ∧ iv = .int .i64 (t : Int) ∧ Mod wr w0 (Go.Sl.blk gb (.cells (s.joinN kk t).cells 171) * (decB x v * (diskA v.pd D * (jourA j v.pd v.name b.length * (G * F))))))
          case atStart => exact ⟨0, by omega, rfl, rfl, m6⟩
          case round =>
            obtain ⟨t, ht, hgk2, rfl, m7⟩ := hrel
            by_cases hlt2 : t < v.jn
            · have hii2 : (t : Int) < (v.jn : Int) := by omega
              obtain ⟨ad, hA, hsp, hcl⟩ := reads_cell m7 (reads_lift inferInstance rJ) (by omega)
              obtain ⟨bn, on_, sp⟩ := ad
              simp only at hsp
              subst hsp hA
              have htl : t < s.join.length := by rw [← hjn.out]; exact hlt2
              have hx := hcl t (.int .u8 ((s.join.getD t 0 : Nat) : Int)) (by rw [List.getD_eq_getElem?_getD]; simp [htl])
              have hn4 := Hj4.out (s.join.getD t 0) (by rw [List.getD_eq_getElem?_getD, List.getElem?_eq_getElem htl]; exact List.getElem_mem _)
              have Hmove : Hid (s.joinN kk (t + 1) = if (s.an (s.join.getD t 0)).isSome = true then (s.joinN kk t).put (s.join.getD t 0) none64 else s.joinN kk t) := rfl
              have hn5 : ((s.join.getD t 0 : Nat) : Int) < 5 := by omega
              have hA := Hat.out.ans (s.join.getD t 0) hn4.2
              have hvA := v.atA (s.join.getD t 0) hn4.2
              have hkm : (s.joinN kk t).many < 4 := by have := s.joinN_many kk t; omega
              have HkO2 := Lib.hid (Dp.joinN_ok HkO.out (fun n hn => (Hj4.out n hn).2) (by rw [← hjn.out]; exact hroom) t (by omega))
              clear hcl
              revert Hmove
              generalize s.joinN kk t = k2 at *
              generalize s.an (s.join.getD t 0) = an at *
              generalize v.a (s.join.getD t 0) = va at *
              generalize s.join.getD t 0 = n at *
              intro Hmove
              cases hA with
              | no =>
                have hvP : v.cells[27 + n]? = some (.pointer none) := hvA
                clear hvA
                go_wp2_with fail
                go_roundg (v.jn - (t + 1))
                case measure => omega
                case rel => exact ⟨t + 1, by omega, rfl, by go_num, by rw [Hmove.out, if_neg (by decide)]; exact m7⟩
              | @yes ga y has h1 h2 h3 =>
                have hvP : v.cells[27 + n]? = some (ptr ga) := hvA
                clear hvA
                go_wp2_with (go_at_call 131; refine (put_none gb k2 n hkm HkO2.out.chainL HkO2.out.hadL _ w0 _ m7).mono ?_; rintro e w8 ⟨rfl, m8⟩)
                go_roundg (v.jn - (t + 1))
                case measure => omega
                case rel => exact ⟨t + 1, by omega, rfl, by go_num, by rw [Hmove.out, if_pos (by rfl)]; exact m8⟩
            · have htJ : t = v.jn := by omega
              subst htJ
              have hii2 : ¬ ((v.jn : Int) < (v.jn : Int)) := by omega
              have hk2 : KnOk (s.joinN kk v.jn) := by rw [hjn.out]; exact Dp.joinN_ok HkO.out (fun n hn => (Hj4.out n hn).2) (by rw [← hjn.out]; exact hroom) _ (Nat.le_refl _)
              have Hk2h : Hid ((s.joinN kk v.jn).holder ≤ 4) := by show _ ≤ 4; rw [(joinN_num s kk v.jn).holder]; exact Hkh.out
              have hC2 : ChainOf (s.joinN kk v.jn) (s.kept v.kn.many ++ s.joined v.jn) := by
                rw [hjn.out]
                refine s.joinN_chain HkC.out ?_ _ (Nat.le_refl _)
                exact (Hs.out.once Hsl.out).sub (List.Sublist.append (s.kept_sub (by rw [Hat.out.kn]; exact Nat.le_refl _) (by rw [← Hat.out.kn]; exact hm4)) (List.Sublist.refl _))
              have Hsm : Hid (∀ n ∈ s.kept v.kn.many ++ s.joined v.jn, (s.an n).isSome = true) := fun n hn => (List.mem_append.1 hn).elim Dp.kept_some Dp.joined_some
              have HK := had_kn (gb := gb) (t := 171) (fr := (0, 0)) hk2.hadL
              have Hk2 := Lib.hid hk2
              have HC2 := Lib.hid hC2
              clear hk2 hC2
              generalize s.joinN kk v.jn = k2 at *
              by_cases hz : k2.many = 0
              · have hz1 : ((k2.many : Int) == 0) = true := by rw [hz]; rfl
                have Hz := Lib.hid hz
                clear hz
                go_wp2_with fail
                go_ret2
                rw [Hd.out, if_pos Hz.out]
                exact ⟨rfl, v, D, g, j, ks, b, G, Hat.out, Mod.drop (m := m7)⟩
              · have hz1 : ((k2.many : Int) == 0) = false := beq_eq_false_iff_ne.2 (by omega)
                have Hz := Lib.hid hz
                clear hz
                go_wp2_with first | (refine wpList_load_kn rfl rfl rfl ?_)
                refine calls_gen (w0 := w0) ?_
                intro w8 m8
                rw [emp_sep] at m8
                refine (makes_spec x v.pd s { k2 with had := k2.had.set 0 0 } (s.kept v.kn.many ++ s.joined v.jn) 2 Hs.out (had0_ok Hk2.out) ⟨HC2.out.chain, HC2.out.many, HC2.out.once⟩ Hsm.out (by decide) (show k2.holder ≤ 4 from Hk2h.out) w8 w0 F ⟨v, D, g, j, ks, b, G, Hat.out, Mod.drop (m := m8)⟩).mono ?_
                rintro e w9 hM
                have hR := MakesSays.res hM
                obtain ⟨A8, n8, c8, z8, rfl⟩ := hR.shape
                go_wp2_with fail
                go_ret2
                rw [Hd.out, if_neg Hz.out, if_pos Hkz.out]
                exact hR
        · have Hkz : Hid (kk.many ≠ 0) := by have := of_decide_eq_true hc1; show _ ≠ _; omega
          go_wp2_with fail
          generalize hjA : v.jA = jA at *
          have HjA := Lib.hid hjA
          clear hjA
          go_loopg [90] v.jn (fun gk iv wr => ∃ t : Nat, t ≤ v.jn ∧ gk = v.jn - t ∧ iv = .int .i64 (t : Int) ∧ Mod wr w0 (Go.Sl.blk gb (.cells (s.joinN kk t).cells 171) * (decB x v * (diskA v.pd D * (jourA j v.pd v.name b.length * (G * F))))))
          case atStart => exact ⟨0, by omega, rfl, rfl, m6⟩
          case round =>
            obtain ⟨t, ht, hgk2, rfl, m7⟩ := hrel
            by_cases hlt2 : t < v.jn
            · have hii2 : (t : Int) < (v.jn : Int) := by omega
              obtain ⟨ad, hA, hsp, hcl⟩ := reads_cell m7 (reads_lift inferInstance rJ) (by omega)
              obtain ⟨bn, on_, sp⟩ := ad
              simp only at hsp
              subst hsp hA
              have htl : t < s.join.length := by rw [← hjn.out]; exact hlt2
              have hx := hcl t (.int .u8 ((s.join.getD t 0 : Nat) : Int)) (by rw [List.getD_eq_getElem?_getD]; simp [htl])
              have hn4 := Hj4.out (s.join.getD t 0) (by rw [List.getD_eq_getElem?_getD, List.getElem?_eq_getElem htl]; exact List.getElem_mem _)
              have Hmove : Hid (s.joinN kk (t + 1) = if (s.an (s.join.getD t 0)).isSome = true then (s.joinN kk t).put (s.join.getD t 0) none64 else s.joinN kk t) := rfl
              have hn5 : ((s.join.getD t 0 : Nat) : Int) < 5 := by omega
              have hA := Hat.out.ans (s.join.getD t 0) hn4.2
              have hvA := v.atA (s.join.getD t 0) hn4.2
              have hkm : (s.joinN kk t).many < 4 := by have := s.joinN_many kk t; omega
              have HkO2 := Lib.hid (Dp.joinN_ok HkO.out (fun n hn => (Hj4.out n hn).2) (by rw [← hjn.out]; exact hroom) t (by omega))
              clear hcl
              revert Hmove
              generalize s.joinN kk t = k2 at *
              generalize s.an (s.join.getD t 0) = an at *
              generalize v.a (s.join.getD t 0) = va at *
              generalize s.join.getD t 0 = n at *
              intro Hmove
              cases hA with
              | no =>
                have hvP : v.cells[27 + n]? = some (.pointer none) := hvA
                clear hvA
                go_wp2_with fail
                go_roundg (v.jn - (t + 1))
                case measure => omega
                case rel => exact ⟨t + 1, by omega, rfl, by go_num, by rw [Hmove.out, if_neg (by decide)]; exact m7⟩
              | @yes ga y has h1 h2 h3 =>
                have hvP : v.cells[27 + n]? = some (ptr ga) := hvA
                clear hvA
                go_wp2_with (go_at_call 131; refine (put_none gb k2 n hkm HkO2.out.chainL HkO2.out.hadL _ w0 _ m7).mono ?_; rintro e w8 ⟨rfl, m8⟩)
                go_roundg (v.jn - (t + 1))
                case measure => omega
                case rel => exact ⟨t + 1, by omega, rfl, by go_num, by rw [Hmove.out, if_pos (by rfl)]; exact m8⟩
            · have htJ : t = v.jn := by omega
              subst htJ
              have hii2 : ¬ ((v.jn : Int) < (v.jn : Int)) := by omega
              have hk2 : KnOk (s.joinN kk v.jn) := by rw [hjn.out]; exact Dp.joinN_ok HkO.out (fun n hn => (Hj4.out n hn).2) (by rw [← hjn.out]; exact hroom) _ (Nat.le_refl _)
              have Hk2h : Hid ((s.joinN kk v.jn).holder ≤ 4) := by show _ ≤ 4; rw [(joinN_num s kk v.jn).holder]; exact Hkh.out
              have hC2 : ChainOf (s.joinN kk v.jn) (s.kept v.kn.many ++ s.joined v.jn) := by
                rw [hjn.out]
                refine s.joinN_chain HkC.out ?_ _ (Nat.le_refl _)
                exact (Hs.out.once Hsl.out).sub (List.Sublist.append (s.kept_sub (by rw [Hat.out.kn]; exact Nat.le_refl _) (by rw [← Hat.out.kn]; exact hm4)) (List.Sublist.refl _))
              have Hsm : Hid (∀ n ∈ s.kept v.kn.many ++ s.joined v.jn, (s.an n).isSome = true) := fun n hn => (List.mem_append.1 hn).elim Dp.kept_some Dp.joined_some
              have Hk2 := Lib.hid hk2
              have HC2 := Lib.hid hC2
              clear hk2 hC2
              generalize s.joinN kk v.jn = k2 at *
              by_cases hz : k2.many = 0
              · have hz1 : ((k2.many : Int) == 0) = true := by rw [hz]; rfl
                have Hz := Lib.hid hz
                clear hz
                go_wp2_with fail
                go_ret2
                rw [Hd.out, if_pos Hz.out]
                exact ⟨rfl, v, D, g, j, ks, b, G, Hat.out, Mod.drop (m := m7)⟩
              · have hz1 : ((k2.many : Int) == 0) = false := beq_eq_false_iff_ne.2 (by omega)
                have Hz := Lib.hid hz
                clear hz
                go_wp2_with first | (refine wpList_load_kn rfl rfl rfl ?_)
                refine (makes_spec x v.pd s k2 (s.kept v.kn.many ++ s.joined v.jn) 0 Hs.out Hk2.out HC2.out Hsm.out (by decide) Hk2h.out _ w0 F ⟨v, D, g, j, ks, b, G, Hat.out, Mod.drop (m := m7)⟩).mono ?_
                rintro e w9 hM
                have hR := MakesSays.res hM
                obtain ⟨A8, n8, c8, z8, rfl⟩ := hR.shape
                go_wp2_with fail
                go_ret2
                rw [Hd.out, if_neg Hz.out, if_neg Hkz.out]
                exact hR
      · have Hd := Lib.hid (Hd1.out hc)
        clear Hd1 Hd2
        have hc1 : decide (0 < kk.many) = false := by rw [decide_eq_false_iff_not]; omega
        have hc2 : ((v.kn.many : Int) == 0) = false := beq_eq_false_iff_ne.2 (by omega)
        generalize s.lacksN v.kn.many = lk at *
        have Hc := Lib.hid hc
        have Hkk := Lib.hid hkk
        clear hc hkk
        go_wp2_with first | (refine wpList_load_kn rfl rfl rfl ?_)
        refine (disk_spec x v.pd s kk lk Hs.out HkO.out (by have := HkC.out; have h0 : kk.many = 0 := by have := Hc.out; omega
                                                            rw [this.many] at h0; rwa [List.eq_nil_of_length_eq_zero h0] at this) Hmiss.out (by have := Hc.out; rw [← Hat.out.kn]; omega) Hkh.out wr w0 F ⟨v, D, g, j, ks, b, G, Hat.out, Mod.drop (m := m6)⟩).mono ?_
        rintro e w8 hR
        obtain ⟨A8, n8, c8, z8, rfl⟩ := hR.shape
        go_wp2_with fail
        go_ret2
        rw [Hd.out]
        exact hR
end Go.Proofs.YtkdiejbpleojnaaGreatDoor
