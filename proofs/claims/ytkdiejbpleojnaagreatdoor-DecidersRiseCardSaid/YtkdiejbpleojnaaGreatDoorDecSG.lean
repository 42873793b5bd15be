/- A decider's calls beside its plain state: contracts over the small separation logic; the conditions are in each theorem.
The walks of the decider's Holder, Epoch, Chain, of Tick of none, and of the law's lives: contracts over the small separation logic; the conditions are in each theorem.
The walk of the law's lives: contracts over the small separation logic; no condition.
What a decider knows behind the first chain's making: plain lemmas.
A message loaded whole and stored whole: plain lemmas over the small separation logic. -/
import Derived.Test.YtkdiejbpleojnaaGreatDoorDecDG
import Derived.Test.YtkdiejbpleojnaaGreatDoorDecCG
import Derived.Test.YtkdiejbpleojnaaGreatDoorDecMG
namespace Go.Sl
def Dp.start : Dp := ⟨Kn.zero, false, [], fun _ => none⟩
def Dp.want (s : Dp) (join : List Nat) : Dp := ⟨{ s.kn with most := s.kn.most + 1 }, true, join, fun _ => none⟩
end Go.Sl
namespace Go.Proofs.YtkdiejbpleojnaaGreatDoor
open Go.RowKit Go.Sl
attribute [local go_sem] cell_of frozen_of zero_names
theorem start_c4 (i : Nat) : Kn.zero.c i ≤ 4 := by
  show Kn.zero.chain.getD i 0 ≤ 4
  rw [List.getD_eq_getElem?_getD]
  cases h : Kn.zero.chain[i]? with
  | none => simp
  | some x => have := List.mem_of_getElem? h; simp [Kn.zero] at this; simp; omega
theorem start_ok : DpOk Dp.start := ⟨zero_ok, ⟨rfl, rfl, ⟨List.nodup_nil, by simp [Dp.start, Kn.nodes, Kn.zero]⟩⟩, start_c4, by decide, by decide, (fun h => absurd h (by decide)), (fun n a h => by cases h), Nat.le_refl _⟩
set_option maxHeartbeats 1000000 in
theorem opened_st (w w0 : World) (S : Asn) (m : Mod w w0 S) : Calls Tryz.prog 49 #[] w fun e w' => ∃ p x, e = .returned (.tuple #[ptr p, ptr x]) ∧ DecSt x p Dp.start S w0 w' := by
  go_enter Tryz.func49, Tryz.ntmps49
  go_wp2_with (go_at_call 10; refine (new_ok 100000 _ w0 _ m (by omega) (by omega)).mono ?_; rintro e w1 ⟨p, rfl, m1⟩)
  refine (new_empty_spec p w1 w0 _ m1).mono ?_
  rintro e w2 ⟨x, j, g, D, b, rfl, ok, m2⟩
  have Hok := Lib.hid ok
  clear ok
  go_wp2_with fail
  go_ret2
  refine ⟨p, x, rfl, firstV p j, D, g, j, [Kn.zero], b, emp, ⟨rfl, rfl, rfl, rfl, rfl, reads_nil, fun n hn => ?_, Hok.out⟩, ?_⟩
  · match n, hn with
    | 0, _ | 1, _ | 2, _ | 3, _ | 4, _ => exact .no
  · rw [emp_sep]; exact m2
theorem want_ok {s : Dp} {join : List Nat} (hs : DpOk s) (hm : s.kn.most < 4294967295) (h : joinOk s.kn.nodes join) : DpOk (s.want join) := by
  have ho := joinOk_once h hs.chain.once
  refine ⟨up_ok hs.kn hm, ⟨hs.chain.chain, hs.chain.many, hs.chain.once⟩, hs.c4, hs.holder, ?_, fun _ => ho, (fun n a h => by cases h), Nat.le_succ_of_le hs.le⟩
  have := ho.le
  rw [List.length_append] at this
  show join.length ≤ 1000000
  omega
theorem want_st (x p : Nat) (s : Dp) (hs : DpOk s) (hl : s.kn.lost = false) (hmost : s.kn.most < 4294967295) (A : Option Addr) (n c : Nat) (join : List Nat) (w w0 : World) (F : Asn) (m : DecSt x p s F w0 w) (r : Reads F A n (n8s join)) (hn : n ≤ c) (hn2 : n ≤ 140737488355328) :
    Calls Tryz.prog 50 #[ptr x, .slice A n c] w fun e w' => (¬ joinOk s.kn.nodes join ∧ e = .returned (.tuple #[.slice none 0 0, .int .i64 1]) ∧ DecSt x p s F w0 w') ∨
      (joinOk s.kn.nodes join ∧ ∃ (B : Option Addr) (cB : Nat), e = .returned (.tuple #[.slice B (s.kn.many + join.length) (s.kn.many + join.length), .int .i64 0]) ∧
        DecSt x p (s.want join) (rowA 98 16 (.slice B (s.kn.many + join.length) cB) (s.kn.many + join.length) (sealCells (s.kn.nodes ++ join) (s.kn.most + 1)) * F) w0 w') := by
  obtain ⟨v, D, g, j, ks, b, G, hat, m⟩ := m
  obtain rfl := hat.pd
  refine (want_spec x j v D g ks b A n c join w w0 (G * F) hat.pj hat.ok (by rw [hat.kn]; exact hs.kn) (by rw [hat.kn]; exact hl) (by rw [hat.kn]; exact hmost) m (reads_lift inferInstance r) hn hn2 (by rw [hat.kn]; exact hs.chain.once) (by rw [hat.kn]; exact may_of (k := s.kn.up) ⟨hs.chain.chain, hs.chain.many, hs.chain.once⟩ hs.holder (Nat.le_succ_of_le hs.le))).mono ?_
  rintro e w' (⟨h1, h2, h3⟩ | ⟨h1, v', D2, g2, j2, ks2, b2, B, cB, G2, h3, h4, h5, h6, h7, h8, h9, h10, h11, h12, h13, h14, h15, h16⟩)
  · rw [hat.kn] at h1
    exact .inl ⟨h1, h2, v, D, g, j, ks, b, G, hat, h3⟩
  · rw [hat.kn] at h1 h3 h6 h16
    refine .inr ⟨h1, B, cB, h3, v', D2, g2, j2, ks2, b2, G2, ⟨h4, h5, h6, h7, h8, h15, fun q hq => ?_, h14⟩, ?_⟩
    · match q, hq with
      | 0, _ => show AnsAt G2 v'.a0 none; rw [h9]; exact .no
      | 1, _ => show AnsAt G2 v'.a1 none; rw [h10]; exact .no
      | 2, _ => show AnsAt G2 v'.a2 none; rw [h11]; exact .no
      | 3, _ => show AnsAt G2 v'.a3 none; rw [h12]; exact .no
      | 4, _ => show AnsAt G2 v'.a4 none; rw [h13]; exact .no
    · rw [← h4]
      exact Mod.drop (A := G) (m := Mod.to (m := h16) (by ac_rfl))
/-- What Came leaves. -/
def CameSays (x p : Nat) (s : Dp) (y : MsgV) (has : List Nat) (F : Asn) (w0 : World) (e : Ending) (w' : World) : Prop :=
  (¬ ((y.say = 6 ∨ y.say = 9) ∧ y.to = 0 ∧ 1 ≤ y.from_ ∧ y.from_ ≤ 4) ∧ e = .returned (.tuple #[.slice none 0 0, .int .i64 1]) ∧ DecSt x p s F w0 w') ∨
  ((y.to = 0 ∧ 1 ≤ y.from_ ∧ y.from_ ≤ 4) ∧ ((y.say = 6 ∧ e = .returned (.tuple #[.slice none 0 0, .int .i64 0]) ∧ DecSt x p (s.cameS y has) F w0 w') ∨
    (y.say = 9 ∧ ((¬ s.isReady y ∧ e = .returned (.tuple #[.slice none 0 0, .int .i64 0]) ∧ DecSt x p s F w0 w') ∨
      (s.isReady y ∧ ∃ (B : Option Addr) (K : Asn), e = .returned (.tuple #[.slice B 1 1, .int .i64 0]) ∧ Reads K B 16 (msg0 10 y.from_ s.kn.epoch y.num 0 0 0 0).toList ∧ DecSt x p (s.cameR y) (K * F) w0 w')))))
theorem AnsAt.none_of {G : Asn} {a : Option Nat} (h : AnsAt G a none) : a = none := by cases h; rfl
theorem AnsAt.some_of {G : Asn} {a : Option Nat} {o : AnsV} (h : AnsAt G a (some o)) : ∃ g, a = some g := by cases h; exact ⟨_, rfl⟩
theorem came_st (x p : Nat) (s : Dp) (hs : DpOk s) (y : MsgV) (has : List Nat) (w w0 : World) (F : Asn) (m : DecSt x p s F w0 w) (hy : MsgOk F y has) : Calls Tryz.prog 55 #[ptr x, .agg y.cells] w (CameSays x p s y has F w0) := by
  obtain ⟨v, D, g, j, ks, b, G, hat, m⟩ := m
  obtain rfl := hat.pd
  by_cases hp : (y.say = 6 ∨ y.say = 9) ∧ y.to = 0 ∧ 1 ≤ y.from_ ∧ y.from_ ≤ 4
  · obtain ⟨hsay, ht, h1, h4⟩ := hp
    have hk : KnOk v.kn := by rw [hat.kn]; exact hs.kn
    have hA := hat.ans _ h4
    rcases hsay with h6 | h9
    · have hj : v.jn ≤ 1000000 := by rw [hat.jn]; exact hs.jn
      by_cases hc : s.seals = true ∧ y.epoch = s.kn.most ∧ y.from_ ∈ s.members ∧ s.an y.from_ = none
      · obtain ⟨c1, c2, c3, c4⟩ := hc
        have hn := hy.haN
        refine (came_sealed_yes x v y s.join has w w0 _ h6 ht h1 h4 hk m (reads_lift inferInstance hat.join) hj (by rw [hat.seals]; exact c1) (by rw [hat.kn]; exact c2) (by rw [hat.kn]; exact c3) (by rw [c4] at hA; exact hA.none_of) y.haN rfl hy.small (reads_lift inferInstance hy.rd)).mono ?_
        rintro e w' ⟨rfl, g2, A2, cA, y2, e1, e2, e3, m2⟩
        obtain ⟨q1, q2, q3, q4, q5, q6, q7, q8⟩ := v.setA_rest y.from_ g2
        refine .inr ⟨⟨ht, h1, h4⟩, .inl ⟨h6, rfl, v.setA y.from_ g2, D, g, j, ks, b, Go.Sl.blk g2 (.cells y2.cells 98) * (rowA 90 1 (.slice A2 y.haN cA) y.haN (has.map vu64) * G), ⟨q1, q2.trans hat.pj, ?_, ?_, ?_, ?_, fun n hn4 => ?_, hat.ok.setA _ _⟩, ?_⟩⟩
        · rw [q5, hat.kn]; unfold Dp.cameS; split <;> rfl
        · rw [q6, hat.seals]; unfold Dp.cameS; split <;> rfl
        · rw [q8, hat.jn]; unfold Dp.cameS; split <;> rfl
        · rw [q7, q8, show (s.cameS y has).join = s.join by unfold Dp.cameS; split <;> rfl]; exact reads_lift inferInstance hat.join
        · rw [show (s.cameS y has).an n = if n = y.from_ then some (y.ans has) else s.an n by unfold Dp.cameS; rw [if_pos ⟨c1, c2, c3, c4⟩], v.setA_a _ _ _ h4 hn4]
          split
          · rw [← e1]
            refine .yes inferInstance (e2.trans hn) ?_
            rw [e3, ← hn]; exact reads_lift inferInstance (Reads.row 90 A2 y.haN cA (has.map vu64))
          · exact (hat.ans n hn4).right.right
        · rw [q3]; exact Mod.to (m := m2) (by ac_rfl)
      · refine (came_sealed_no x v y s.join w w0 _ h6 ht h1 h4 hk m (reads_lift inferInstance hat.join) hj ?_).mono ?_
        · rw [hat.seals, hat.kn]
          by_cases c1 : s.seals = true
          · by_cases c2 : y.epoch = s.kn.most
            · by_cases c3 : y.from_ ∈ s.members
              · refine .inr (.inr (.inr ?_))
                cases ha : s.an y.from_ with
                | none => exact absurd ⟨c1, c2, c3, ha⟩ hc
                | some a => rw [ha] at hA; exact hA.some_of
              · exact .inr (.inr (.inl c3))
            · exact .inr (.inl c2)
          · left; cases hh : s.seals
            · rfl
            · exact absurd hh c1
        · rintro e w' ⟨rfl, m2⟩
          refine .inr ⟨⟨ht, h1, h4⟩, .inl ⟨h6, rfl, ?_⟩⟩
          have e : s.cameS y has = s := by unfold Dp.cameS; rw [if_neg hc]
          rw [e]
          exact ⟨v, D, g, j, ks, b, G, hat, m2⟩
    · by_cases hr : s.isReady y
      · obtain ⟨c1, c2, c3, c4, c5⟩ := hr
        refine (came_ready x j v y D g ks b w w0 _ hat.pj hat.ok h9 ht h1 h4 hk m (by rw [hat.seals]; exact c1) (s.kn.many - 1) (by rw [hat.kn]; omega) (by rw [hat.kn]; exact c3) (by rw [hat.kn]; exact c4) c5 hy.ok.num (by rw [hat.kn]; exact may_of (k := s.kn.held y.from_ y.num) ⟨hs.chain.chain, hs.chain.many, hs.chain.once⟩ h4 hs.le)).mono ?_
        rintro e w' ⟨v', D2, g2, j2, ks2, b2, B, K, rfl, hv, ok2, rK, m2⟩
        rw [hat.kn] at hv rK
        have hv' := hv
        refine .inr ⟨⟨ht, h1, h4⟩, .inr ⟨h9, .inr ⟨⟨c1, c2, c3, c4, c5⟩, B, K, rfl, rK, v', D2, g2, j2, ks2, b2, G, ⟨by rw [hv'], by rw [hv'], by rw [hv']; rfl, by rw [hv']; exact hat.seals, by rw [hv']; exact hat.jn, by rw [hv']; exact hat.join, fun n hn => ?_, ok2⟩, ?_⟩⟩⟩
        · rw [hv']; exact hat.ans n hn
        · exact Mod.to (m := m2) (by ac_rfl)
      · refine (came_ready_no x v y w w0 _ h9 ht h1 h4 hk m ?_).mono ?_
        · rw [hat.seals, hat.kn]
          by_cases c1 : s.seals = true
          · exact .inl c1
          · by_cases c2 : s.kn.many = 0
            · exact .inr (.inl c2)
            · by_cases c3 : y.epoch = s.kn.epoch
              · by_cases c4 : y.from_ = s.kn.c (s.kn.many - 1)
                · refine .inr (.inr (.inr (.inr ?_)))
                  by_cases c5 : y.num = 0
                  · exact c5
                  · exact absurd ⟨by cases hh : s.seals; rfl; exact absurd hh c1, by omega, c3, c4, c5⟩ hr
                · exact .inr (.inr (.inr (.inl ⟨by omega, c4⟩)))
              · exact .inr (.inr (.inl c3))
        · rintro e w' ⟨rfl, m2⟩
          exact .inr ⟨⟨ht, h1, h4⟩, .inr ⟨h9, .inl ⟨hr, rfl, v, D, g, j, ks, b, G, hat, m2⟩⟩⟩
  · refine (came_arg x v y w w0 _ m hp).mono ?_
    rintro e w' ⟨rfl, m2⟩
    exact .inl ⟨hp, rfl, v, D, g, j, ks, b, G, hat, m2⟩
end Go.Proofs.YtkdiejbpleojnaaGreatDoor
namespace Go.Proofs.YtkdiejbpleojnaaGreatDoor
open Go.RowKit Go.Sl
attribute [local go_sem] cell_of cellAt_of frozen_of zero_names DecV.at0 DecV.at1 DecV.at2 DecV.at3 DecV.at4 DecV.at5 DecV.at6 DecV.at7 DecV.at8 DecV.at9 DecV.at10 DecV.at11 DecV.at12 DecV.at13 DecV.at14 DecV.at15 DecV.at16 DecV.at17 DecV.at18 DecV.at19 DecV.at20 DecV.at21 DecV.at22 DecV.at23 DecV.at24 DecV.at25 DecV.at26 DecV.at27 DecV.at28 DecV.at29 DecV.at30 DecV.at31
set_option maxHeartbeats 1000000 in
theorem holder_st (x p : Nat) (s : Dp) (w w0 : World) (F : Asn) (m : DecSt x p s F w0 w) : Calls Tryz.prog 57 #[ptr x] w fun e w' => e = .returned (.tuple #[vu8 s.kn.holder, vu32 s.kn.stamp]) ∧ DecSt x p s F w0 w' := by
  obtain ⟨v, D, g, j, ks, b, G, hat, m⟩ := m
  obtain rfl := hat.pd
  have Hat := Lib.hid hat
  clear hat
  go_enter Tryz.func57, Tryz.ntmps57
  go_wp2_with (go_at_call 124; refine (dthere_spec x v _ w0 _ m).mono ?_; rintro e w1 ⟨rfl, m1⟩)
  go_quiet (fail)
  go_wp2_with fail
  go_ret2
  exact ⟨by rw [← Hat.out.kn]; rfl, v, D, g, j, ks, b, G, Hat.out, inferInstance⟩
set_option maxHeartbeats 1000000 in
theorem epoch_st (x p : Nat) (s : Dp) (w w0 : World) (F : Asn) (m : DecSt x p s F w0 w) : Calls Tryz.prog 51 #[ptr x] w fun e w' => e = .returned (vu32 s.kn.epoch) ∧ DecSt x p s F w0 w' := by
  obtain ⟨v, D, g, j, ks, b, G, hat, m⟩ := m
  obtain rfl := hat.pd
  have Hat := Lib.hid hat
  clear hat
  go_enter Tryz.func51, Tryz.ntmps51
  go_wp2_with (go_at_call 124; refine (dthere_spec x v _ w0 _ m).mono ?_; rintro e w1 ⟨rfl, m1⟩)
  go_ret
  exact ⟨by rw [← Hat.out.kn]; rfl, v, D, g, j, ks, b, G, Hat.out, inferInstance⟩
set_option maxHeartbeats 1000000 in
theorem tick_nil (w w0 : World) (S : Asn) (m : Mod w w0 S) : Calls Tryz.prog 56 #[.pointer none] w fun e w' => e = .returned (.tuple #[.slice none 0 0, .int .i64 2]) ∧ Mod w' w0 S := by
  go_enter Tryz.func56, Tryz.ntmps56
  go_wp2_with (go_at_call 124; refine (dthere_nil _ w0 _ m).mono ?_; rintro e w1 ⟨rfl, m1⟩)
  go_ret2
  exact ⟨rfl, m1⟩
set_option maxRecDepth 4000 in
set_option maxHeartbeats 4000000 in
theorem chain_st (x p : Nat) (s : Dp) (hs : DpOk s) (w w0 : World) (F : Asn) (m : DecSt x p s F w0 w) : Calls Tryz.prog 58 #[ptr x] w fun e w' => ∃ A c, e = .returned (.slice A s.kn.many s.kn.many) ∧ DecSt x p s (rowA 5 1 (.slice A s.kn.many c) s.kn.many (n8s s.kn.nodes) * F) w0 w' := by
  obtain ⟨v, D, g, j, ks, b, G, hat, m⟩ := m
  obtain rfl := hat.pd
  have hm4 : v.kn.many ≤ 4 := by rw [hat.kn]; exact hs.kn.many
  have hmi : (v.kn.many : Int) ≤ 4 := by omega
  have hm0 : (0 : Int) ≤ (v.kn.many : Int) := by omega
  have Hat := Lib.hid hat
  clear hat
  go_enter Tryz.func58, Tryz.ntmps58
  go_wp2_with (go_at_call 124; refine (dthere_spec x v _ w0 _ m).mono ?_; rintro e w1 ⟨rfl, m1⟩)
  have hx : Has (decB x v * (diskA v.pd D * (jourA j v.pd v.name b.length * (G * F)))) x (.cells v.cells 175 (0, 0)) := inferInstance
  have rn := reads_nodes hx hm4
  have h1 : ∀ u ∈ n8s v.kn.nodes, u.oneCell' = true := one_n8s _
  go_region_held3 (fun u => u.cell? ⟨x, 10, none⟩ = some (.int .i64 (v.kn.many : Int))) ((rw [cell_of]; rfl))
    (first | (go_at_call 71; refine (clone_bytes (some ⟨x, 11, none⟩) v.kn.many 4 (n8s v.kn.nodes) _ w0 _ inferInstance rn h1 (by omega)).mono ?_; rintro e w2 ⟨A', c', rfl, m2⟩) | (go_at_call 138; refine (clipU8_spec A' v.kn.many c' _ w0 _ inferInstance (row_len_cap m2)).mono ?_; rintro e w3 ⟨rfl, m3⟩))
  go_wp2_with fail
  go_ret
  refine ⟨A', c', by rw [← Hat.out.kn]; rfl, v, D, g, j, ks, b, G, Hat.out, ?_⟩
  rw [← Hat.out.kn]
  exact Mod.to (m := m3) (by ac_rfl)
def msgOf (say from_ epoch num : Nat) : MsgV := ⟨say, from_, 0, epoch, 0, num, 0, 0, none, 0, 0, none, 0, 0, .slice none 0 0, .slice none 0 0, .slice none 0 0, .int .i64 0, .bool false, .slice none 0 0⟩
theorem msgOf_ok {S : Asn} {say from_ epoch num : Nat} (h1 : say < 256) (h2 : from_ < 256) (h3 : epoch < 4294967296) (h4 : num < 4294967296) : MsgOk S (msgOf say from_ epoch num) [] :=
  ⟨h1, h2, (show 0 < 256 by decide), h3, rfl, (show 0 ≤ 17592186044416 by decide), reads_nil, ⟨h4, (show 0 < 256 by decide), (show 0 < 18446744073709551616 by decide), (show 0 < 18446744073709551616 by decide), by simp [MsgV.ans]⟩, List.all_eq_true.1 rfl⟩
/-- A decider's part of the heap, the rest to be turned. -/
theorem DecSt.opened {x p : Nat} {s : Dp} {F : Asn} {w0 w : World} (m : DecSt x p s F w0 w) : ∃ Z, Mod w w0 (Z * F) ∧ ∀ w' F', Mod w' w0 (Z * F') → DecSt x p s F' w0 w' := by
  obtain ⟨v, D, g, j, ks, b, G, hat, m⟩ := m
  exact ⟨decB x v * (diskA p D * (jourA j p v.name b.length * G)), Mod.to (m := m) (by ac_rfl), fun w' F' m' => ⟨v, D, g, j, ks, b, G, hat, Mod.to (m := m') (by ac_rfl)⟩⟩
def S1 : Dp := Dp.start.want [1, 2]
def S2 : Dp := S1.cameS (msgOf 6 1 1 0) []
def K3 : Kn := ⟨1, 1, 2, 0, 0, false, 1, [1, 0, 0, 0], [0, 0, 0, 0], [0, 0, 0, 0], 0, 0⟩
def S3 : Dp := { S2 with kn := K3, seals := false }
def S4 : Dp := S3.cameR (msgOf 9 1 1 17)
theorem ok_S1 : DpOk S1 := want_ok start_ok (by decide) (by unfold joinOk; decide)
theorem ok_S2 : DpOk S2 := Dp.cameS_ok ok_S1 (msgOf_ok (S := emp) (by decide) (by decide) (by decide) (by decide)).ok
theorem dec_S2 : S2.decide = .made K3 := rfl
theorem chain_K3 : ChainOf K3 [1] := ⟨rfl, rfl, once_one (by decide) (by decide)⟩
end Go.Proofs.YtkdiejbpleojnaaGreatDoor
namespace Go.Proofs.YtkdiejbpleojnaaGreatDoor
open Go.RowKit Go.Sl
attribute [local go_sem] cell_of cellAt_of frozen_of zero_names
theorem want12 (x p : Nat) (A : Option Addr) (w w0 : World) (F : Asn) (m : DecSt x p Dp.start F w0 w) (r : Reads F A 2 (n8s [1, 2])) : Calls Tryz.prog 50 #[ptr x, .slice A 2 2] w fun e w' => ∃ B cB, e = .returned (.tuple #[.slice B 2 2, .int .i64 0]) ∧
    DecSt x p S1 (rowA 98 16 (.slice B 2 cB) 2 (sealCells [1, 2] 1) * F) w0 w' := by
  refine (want_st x p Dp.start start_ok rfl (by decide) A 2 2 [1, 2] w w0 F m r (Nat.le_refl _) (by decide)).mono ?_
  rintro e w' (⟨h1, _⟩ | ⟨_, B, cB, h2, h3⟩)
  · exact absurd (by unfold joinOk; decide) h1
  · exact ⟨B, cB, h2, h3⟩
theorem came1 (x p : Nat) (w w0 : World) (F : Asn) (m : DecSt x p S1 F w0 w) : Calls Tryz.prog 55 #[ptr x, .agg (msgOf 6 1 1 0).cells] w fun e w' => e = .returned (.tuple #[.slice none 0 0, .int .i64 0]) ∧ DecSt x p S2 F w0 w' := by
  refine (came_st x p S1 ok_S1 (msgOf 6 1 1 0) [] w w0 F m (msgOf_ok (by decide) (by decide) (by decide) (by decide))).mono ?_
  rintro e w' (⟨h1, _⟩ | ⟨_, ⟨_, h2, h3⟩ | ⟨h2, _⟩⟩)
  · exact absurd ⟨.inl rfl, rfl, by decide, by decide⟩ h1
  · exact ⟨h2, h3⟩
  · exact absurd h2 (by decide)
theorem decide2 (x p : Nat) (w w0 : World) (F : Asn) (m : DecSt x p S2 F w0 w) : Calls Tryz.prog 52 #[ptr x] w fun e w' => ∃ (C : Option Addr) (c : Nat) (y : MsgV) (G : Asn), e = .returned (.tuple #[.slice C 1 1, .int .i64 0]) ∧ ActOf G K3 y 0 ∧
    DecSt x p S3 (rowA 98 16 (.slice C 1 c) 1 y.cells.toList * (G * F)) w0 w' := by
  refine (decide_spec x p S2 ok_S2 rfl w w0 F m).mono ?_
  rintro e w' hR
  rw [dec_S2] at hR
  obtain ⟨C, c, ys, G, h1, h2, h3, h4⟩ := hR
  match ys, h2 with
  | [y], _ =>
    simp only [List.flatMap_cons, List.flatMap_nil, List.append_nil] at h4
    exact ⟨C, c, y, G, h1, h3 0 (show 0 < 1 from Nat.one_pos), h4⟩
theorem ok_S3 : DpOk S3 := ⟨⟨by decide, by decide, by decide, by decide, by decide, by decide, rfl, rfl, rfl, by decide, by decide, by decide, by decide, by decide⟩, ⟨rfl, rfl, once_one (by decide) (by decide)⟩, chain_K3.c4, by decide, by decide, (fun h => absurd h (by decide)), ok_S2.an, by decide⟩
theorem ready3 : S3.isReady (msgOf 9 1 1 17) := ⟨rfl, by decide, rfl, rfl, by decide⟩
theorem came3 (x p : Nat) (w w0 : World) (F : Asn) (m : DecSt x p S3 F w0 w) : Calls Tryz.prog 55 #[ptr x, .agg (msgOf 9 1 1 17).cells] w fun e w' => ∃ B K, e = .returned (.tuple #[.slice B 1 1, .int .i64 0]) ∧ Reads K B 16 (msg0 10 1 1 17 0 0 0 0).toList ∧ DecSt x p S4 (K * F) w0 w' := by
  refine (came_st x p S3 ok_S3 (msgOf 9 1 1 17) [] w w0 F m (msgOf_ok (by decide) (by decide) (by decide) (by decide))).mono ?_
  rintro e w' (⟨h1, _⟩ | ⟨_, ⟨h2, _⟩ | ⟨_, ⟨h3, _⟩ | ⟨_, B, K, h4, h5, h6⟩⟩⟩)
  · exact absurd ⟨.inr rfl, rfl, by decide, by decide⟩ h1
  · exact absurd h2 (by decide)
  · exact absurd ready3 h3
  · exact ⟨B, K, h4, h5, h6⟩
theorem ok_S4 : DpOk S4 := ⟨⟨by decide, by decide, by decide, by decide, by decide, by decide, rfl, rfl, rfl, by decide, by decide, by decide, by decide, by decide⟩, ⟨rfl, rfl, once_one (by decide) (by decide)⟩, chain_K3.c4, by decide, by decide, (fun h => absurd h (by decide)), ok_S2.an, by decide⟩
theorem want4 (x p : Nat) (A : Option Addr) (w w0 : World) (F : Asn) (m : DecSt x p S4 F w0 w) (r : Reads F A 1 (n8s [1])) : Calls Tryz.prog 50 #[ptr x, .slice A 1 1] w fun e w' => e = .returned (.tuple #[.slice none 0 0, .int .i64 1]) ∧ DecSt x p S4 F w0 w' := by
  refine (want_st x p S4 ok_S4 rfl (by decide) A 1 1 [1] w w0 F m r (Nat.le_refl _) (by decide)).mono ?_
  rintro e w' (⟨_, h2, h3⟩ | ⟨h1, _⟩)
  · exact ⟨h2, h3⟩
  · exact absurd h1 (by unfold joinOk; decide)
theorem holder4 (x p : Nat) (w w0 : World) (F : Asn) (m : DecSt x p S4 F w0 w) : Calls Tryz.prog 57 #[ptr x] w fun e w' => e = .returned (.tuple #[.int .u8 1, .int .u32 17]) ∧ DecSt x p S4 F w0 w' := holder_st x p S4 w w0 F m
set_option maxRecDepth 4000 in
set_option maxHeartbeats 4000000 in
theorem lives_spec (w w0 : World) (S : Asn) (m : Mod w w0 S) : Calls Tryz.prog 48 #[] w fun e w' => e = .returned (.bool true) ∧ Mod w' w0 S := by
  go_enter Tryz.func48, Tryz.ntmps48
  go_wp2_with (go_at_call 49; refine (opened_st _ w0 _ m).mono ?_; rintro e w1 ⟨p, x, rfl, m1⟩)
  obtain ⟨Z, mZ, hZ⟩ := m1.opened
  have HZ := Lib.hid hZ
  clear hZ
  refine (want12 x p _ _ w0 _ (HZ.out _ _ (Mod.pull Z)) (reads_blk rfl rfl)).mono ?_
  rintro e w2 ⟨B, cB, rfl, m2⟩
  go_wp2_with fail
  refine (came1 x p _ w0 _ m2).mono ?_
  rintro e w3 ⟨rfl, m3⟩
  go_wp2_with fail
  refine (decide2 x p _ w0 _ m3).mono ?_
  rintro e w4 ⟨C, c, y, G, rfl, hact, m4⟩
  go_wp2_with fail
  refine (came3 x p _ w0 _ m4).mono ?_
  rintro e w5 ⟨B5, K5, rfl, r5, m5⟩
  go_wp2_with fail
  refine (holder4 x p _ w0 _ m5).mono ?_
  rintro e w6 ⟨rfl, m6⟩
  go_wp2_with fail
  obtain ⟨Z6, mZ6, hZ6⟩ := m6.opened
  have HZ6 := Lib.hid hZ6
  clear hZ6
  refine (want4 x p _ _ w0 _ (HZ6.out _ _ (Mod.pull Z6)) (reads_blk rfl rfl)).mono ?_
  rintro e w7 ⟨rfl, m7⟩
  go_wp2_with fail
  refine (decide_state x p S4 rfl _ w0 _ m7).mono ?_
  rintro e w8 ⟨rfl, m8⟩
  go_wp2_with fail
  obtain ⟨Z8, mZ8, hZ8⟩ := m8.opened
  refine (tick_nil _ w0 _ mZ8).mono ?_
  rintro e w9 ⟨rfl, m9⟩
  obtain ⟨⟨bB, oB, sB⟩, hB, hsB, hcB⟩ := reads_cell m9 (reads_lift inferInstance (reads_rown (e := 98) (size := 16) (n := 2) (c := cB) (A := B) (xs := sealCells [1, 2] 1) (by decide))) (by decide)
  obtain ⟨⟨bC, oC, sC⟩, hC, hsC, hcC⟩ := reads_cell m9 (reads_lift inferInstance (reads_rown (e := 98) (size := 16) (n := 1) (c := c) (A := C) (xs := y.cells.toList) (by decide))) (by decide)
  obtain ⟨⟨bH, oH, sH⟩, hH, hsH, hcH⟩ := reads_cell m9 (reads_lift inferInstance (show Reads G y.haA 2 ([0, 0].map vu64) from hact.has)) (by decide)
  obtain ⟨⟨b5, o5, s5⟩, h5, hs5, hc5⟩ := reads_cell m9 (reads_lift inferInstance r5) (by decide)
  simp only at hsB hsC hsH hs5
  subst hsB hsC hsH hs5 hB hC h5
  have q1 := hcB 0 (.int .u8 5) rfl
  have q2 := hcB 18 (.int .u8 2) rfl
  have q3 := hcC 0 (.int .u8 7) (by have := hact.say; show some (vu8 y.say) = _; rw [this]; rfl)
  have q4 := hcC 6 (.int .u64 2) (by have := hact.index; show some (vu64 y.index) = _; rw [this]; rfl)
  have q5 := hcC 9 (.slice (some ⟨bH, oH, none⟩) 2 y.haC) (by have := hact.haN; show some (Value.slice y.haA y.haN y.haC) = _; rw [this, hH]; rfl)
  have q6 := hcH 0 (.int .u64 0) rfl
  have q7 := hc5 0 (.int .u8 10) rfl
  rw [Nat.add_zero] at q1 q3 q6 q7
  have M9 := Lib.hid m9
  clear m m1 mZ m2 m3 m4 m5 m6 mZ6 m7 m8 mZ8 hZ8 HZ6 HZ hcB hcC hcH hc5 hH hact r5 m9
  go_wp2_with fail
  go_ret
  have m9 := M9.out
  exact ⟨rfl, Mod.sub S (m := m9)⟩
end Go.Proofs.YtkdiejbpleojnaaGreatDoor
namespace Go.Proofs.YtkdiejbpleojnaaGreatDoor
open Go.RowKit Go.Sl
/-- Some of the first ones have answered. -/
structure Asked (first : List Nat) (i : Nat) (s : Dp) : Prop where
  ok : DpOk s
  kn : s.kn = { Kn.zero with most := 1 }
  seals : s.seals = true
  join : s.join = first
  an : ∀ t, t < i → (s.an (first.getD t 0)).isSome = true
theorem asked_start {first : List Nat} (h : joinOk [] first) : Asked first 0 (Dp.start.want first) := ⟨want_ok start_ok (by decide) h, rfl, rfl, rfl, fun t h => by omega⟩
theorem asked_step {first : List Nat} {i : Nat} {s : Dp} (h : Asked first i s) (hi : i < first.length) : Asked first (i + 1) (s.cameS (msgOf 6 (first.getD i 0) 1 0) []) := by
  have hmem : first.getD i 0 ∈ first := by rw [List.getD_eq_getElem?_getD, List.getElem?_eq_getElem hi]; exact List.getElem_mem _
  have hn := h.ok.jn4 h.seals (first.getD i 0) (by rw [h.join]; exact hmem)
  have hok := Dp.cameS_ok (y := msgOf 6 (first.getD i 0) 1 0) (has := []) h.ok (msgOf_ok (S := emp) (by decide) (by omega) (by decide) (by decide)).ok
  have e : s.cameS (msgOf 6 (first.getD i 0) 1 0) [] = if s.an (first.getD i 0) = none then { s with an := fun n => if n = first.getD i 0 then some ((msgOf 6 (first.getD i 0) 1 0).ans []) else s.an n } else s := by
    unfold Dp.cameS
    have hm : (msgOf 6 (first.getD i 0) 1 0).from_ ∈ s.members := by
      show first.getD i 0 ∈ s.kn.nodes ++ s.join
      rw [h.join]; exact List.mem_append_right _ hmem
    have he : (msgOf 6 (first.getD i 0) 1 0).epoch = s.kn.most := by rw [h.kn]; rfl
    by_cases ha : s.an (first.getD i 0) = none
    · rw [if_pos ⟨h.seals, he, hm, ha⟩, if_pos ha]; rfl
    · rw [if_neg (fun c => ha c.2.2.2), if_neg ha]
  rw [e] at hok ⊢
  split
  · rename_i ha
    rw [if_pos ha] at hok
    refine ⟨hok, h.kn, h.seals, h.join, fun t ht => ?_⟩
    show (if first.getD t 0 = first.getD i 0 then _ else s.an (first.getD t 0)).isSome = true
    split
    · rfl
    · rename_i hne
      rcases Nat.lt_or_ge t i with h1 | h1
      · exact h.an t h1
      · obtain rfl : t = i := by omega
        exact absurd rfl hne
  · rename_i ha
    rw [if_neg ha] at hok
    refine ⟨hok, h.kn, h.seals, h.join, fun t ht => ?_⟩
    rcases Nat.lt_or_ge t i with h1 | h1
    · exact h.an t h1
    · obtain rfl : t = i := by omega
      cases hc : s.an (first.getD t 0) with
      | none => exact absurd hc ha
      | some a => rfl
/-- The first chain. -/
structure FirstKn (first : List Nat) (k : Kn) : Prop where
  ok : KnOk k
  chain : ChainOf k first
  epoch : k.epoch = 1
  most : k.most = 1
  index : k.index = 2
  holder : k.holder = 0
  stamp : k.stamp = 0
  lost : k.lost = false
theorem dec_fresh {s : Dp} (h1 : s.seals = true) (h2 : s.kn.many = 0) (h3 : (s.joinN s.kn.base s.join.length).many ≠ 0) : s.decide = .made (s.makes { s.joinN s.kn.base s.join.length with had := (s.joinN s.kn.base s.join.length).had.set 0 0 } 2) := by
  have hk : s.keepN s.kn.many = s.kn.base := by rw [h2]; rfl
  unfold Dp.decide
  rw [if_neg (by rw [h1]; decide)]
  simp only [hk]
  rw [if_pos (show 0 < s.kn.base.many ∨ s.kn.many = 0 from .inr h2), if_neg h3, if_pos (show s.kn.base.many = 0 from rfl)]
theorem asked_decide {first : List Nat} {s : Dp} (h : Asked first first.length s) (h0 : 0 < first.length) : ∃ k, s.decide = .made k ∧ FirstKn first k := by
  have hm : s.kn.many = 0 := by rw [h.kn]; rfl
  have hno : s.kn.nodes = [] := by rw [h.kn]; rfl
  have hj : s.joined s.join.length = first := by
    unfold Dp.joined
    rw [List.take_length, h.join]
    refine List.filter_eq_self.2 fun n hn => ?_
    obtain ⟨i, hi, rfl⟩ := List.getElem_of_mem hn
    have := h.an i hi
    rwa [List.getD_eq_getElem?_getD, List.getElem?_eq_getElem hi] at this
  have ho := h.ok.once h.seals
  rw [hno, List.nil_append] at ho
  have hc := s.joinN_chain (base_chain s.kn) (by rw [List.nil_append]; exact ho) _ (Nat.le_refl _)
  rw [hj, List.nil_append] at hc
  have hk := Dp.joinN_ok (s := s) h.ok.kn.base (fun n hn => (h.ok.jn4 h.seals n hn).2) (by have := h.ok.room h.seals; show 0 + _ ≤ 4; omega) _ (Nat.le_refl _)
  obtain ⟨e1, e2, e3, e4⟩ := joinN_num s s.kn.base s.join.length
  have hmany : (s.joinN s.kn.base s.join.length).many ≠ 0 := by rw [hc.many]; omega
  have hd : s.decide = .made (s.makes { s.joinN s.kn.base s.join.length with had := (s.joinN s.kn.base s.join.length).had.set 0 0 } 2) := by
    exact dec_fresh h.seals hm hmany
  refine ⟨_, hd, ?_⟩
  generalize s.joinN s.kn.base s.join.length = k2 at *
  have hS := s.livesN_same { k2 with had := k2.had.set 0 0 } k2.many
  have hk3 := had0_ok hk
  have hb : s.kn.base.most = 1 := by rw [h.kn]; rfl
  refine ⟨Dp.makes_ok h.ok hk3 (by decide), Dp.makes_chain (k := { k2 with had := k2.had.set 0 0 }) ⟨hc.chain, hc.many, hc.once⟩ 2, ?_, ?_, rfl, ?_, ?_, ?_⟩
  · exact hS.most.trans (e1.trans hb)
  · exact hS.most.trans (e1.trans hb)
  · exact hS.holder.trans (e2.trans (by rw [h.kn]; rfl))
  · exact hS.stamp.trans (e3.trans (by rw [h.kn]; rfl))
  · exact hS.lost.trans (e4.trans (by rw [h.kn]; rfl))
/-- A decider behind the first chain. -/
structure Led (first : List Nat) (sl : Bool) (h st : Nat) (s : Dp) : Prop where
  ok : DpOk s
  chain : ChainOf s.kn first
  epoch : s.kn.epoch = 1
  seals : s.seals = sl
  holder : s.kn.holder = h
  stamp : s.kn.stamp = st
theorem dmade_ok {s : Dp} (hs : DpOk s) {k : Kn} {l : List Nat} (hk : KnOk k) (hc : ChainOf k l) (hh : k.holder ≤ 4) (he : k.epoch ≤ k.most) : DpOk { s with kn := k, seals := false } :=
  ⟨hk, by have := hc.nodes; show ChainOf k k.nodes; rw [this]; exact hc, hc.c4, hh, hs.jn, (fun h => by cases h), hs.an, he⟩
theorem led_start {first : List Nat} {s : Dp} {k : Kn} (h : Asked first first.length s) (hk : FirstKn first k) : Led first false 0 0 { s with kn := k, seals := false } :=
  ⟨dmade_ok h.ok hk.ok hk.chain (by rw [hk.holder]; decide) (by rw [hk.epoch, hk.most]; decide), hk.chain, hk.epoch, rfl, hk.holder, hk.stamp⟩
theorem joinOk_nil {l : List Nat} (h : 0 < l.length) : joinOk l [] := ⟨fun t ht => absurd ht (by simp), by simpa using h⟩
theorem led_want {first : List Nat} {s : Dp} {h st : Nat} (hl : Led first false h st s) (hm : s.kn.most < 4294967295) (h0 : 0 < first.length) : Led first true h st (s.want []) :=
  ⟨want_ok hl.ok hm (by rw [hl.chain.nodes]; exact joinOk_nil h0), ⟨hl.chain.chain, hl.chain.many, hl.chain.once⟩, hl.epoch, rfl, hl.holder, hl.stamp⟩
theorem cameR_ok {s : Dp} (hs : DpOk s) {y : MsgV} (h4 : y.from_ ≤ 4) (hn : y.num < 4294967296) : DpOk (s.cameR y) :=
  ⟨held_ok hs.kn h4 hn, ⟨hs.chain.chain, hs.chain.many, hs.chain.once⟩, hs.c4, h4, hs.jn, hs.once, hs.an, hs.le⟩
theorem led_ready {first : List Nat} {s : Dp} {h st : Nat} (hl : Led first false h st s) {y : MsgV} (h4 : y.from_ ≤ 4) (hn : y.num < 4294967296) : Led first false y.from_ y.num (s.cameR y) :=
  ⟨cameR_ok hl.ok h4 hn, ⟨hl.chain.chain, hl.chain.many, hl.chain.once⟩, hl.epoch, hl.seals, rfl, rfl⟩
theorem led_is {first : List Nat} {s : Dp} {h st : Nat} (hl : Led first false h st s) (h0 : 0 < first.length) (y : MsgV) : s.isReady y ↔ y.epoch = 1 ∧ y.from_ = first.getD (first.length - 1) 0 ∧ y.num ≠ 0 := by
  have hm := hl.chain.many
  unfold Dp.isReady
  rw [hl.epoch, hl.chain.c, hm]
  exact ⟨fun ⟨_, _, a, b, c⟩ => ⟨a, b, c⟩, fun ⟨a, b, c⟩ => ⟨hl.seals, h0, a, b, c⟩⟩
theorem led_not {first : List Nat} {s : Dp} {h st : Nat} (hl : Led first true h st s) (y : MsgV) : ¬ s.isReady y := fun hr => by have := hr.1; rw [hl.seals] at this; cases this
end Go.Proofs.YtkdiejbpleojnaaGreatDoor
namespace Go.Proofs.YtkdiejbpleojnaaGreatDoor
open Go.RowKit Go.Sl
def _root_.Go.Sl.MsgV.as9 (y : MsgV) : MsgV := { y with say := 9 }
def _root_.Go.Sl.MsgV.as6 (y : MsgV) : MsgV := { y with say := 6, to := 0, epoch := 2 }
/-- S knows the message that lies in block g. -/
class HasMsg (S : Asn) (g : Nat) (y : outParam MsgV) : Prop where
  has : ∀ h, S.says h → ∃ cs t fr, h g = some (.cells cs t fr) ∧ ∀ (j : Nat) v, y.cells[j]? = some v → cs[j]? = some v
instance HasMsg.as9 (g : Nat) (y : MsgV) (t : TypeId) (fr : Nat × Nat) : HasMsg (Go.Sl.blk g (.cells (y.cells.setIfInBounds 0 (.int .u8 9)) t fr)) g y.as9 := ⟨fun h hh => ⟨y.as9.cells, t, fr, by rw [hh]; simp only [Hp.one, if_pos]; rfl, fun j v hv => hv⟩⟩
instance HasMsg.as6 (g : Nat) (y : MsgV) (t : TypeId) (fr : Nat × Nat) : HasMsg (Go.Sl.blk g (.cells (((y.cells.setIfInBounds 0 (.int .u8 6)).setIfInBounds 2 (.int .u8 0)).setIfInBounds 3 (.int .u32 2)) t fr)) g y.as6 := ⟨fun h hh => ⟨y.as6.cells, t, fr, by rw [hh]; simp only [Hp.one, if_pos]; rfl, fun j v hv => hv⟩⟩
instance HasMsg.left (A B : Asn) (g : Nat) (k : MsgV) [ha : HasMsg A g k] : HasMsg (A * B) g k :=
  ⟨by
    rintro h ⟨a, b, _, rfl, h1, _⟩
    obtain ⟨cs, t, fr, hh, hc⟩ := ha.has a h1
    exact ⟨cs, t, fr, by simp [Hp.join, hh], hc⟩⟩
instance HasMsg.right (A B : Asn) (g : Nat) (k : MsgV) [hb : HasMsg B g k] : HasMsg (A * B) g k := by
  rw [sep_comm]; exact HasMsg.left B A g k
theorem range_msg {w w0 : World} {S : Asn} {g : Nat} {k : MsgV} [m : Mod w w0 S] [h : HasMsg S g k] : w.rangeAt g 0 k.cells.toList := fun j v hv => by
  obtain ⟨a, b, _, h2, h3, _⟩ := m.says
  obtain ⟨cs, t, fr, hh, hc⟩ := h.has a h3
  have e : w.heap[g]? = some (.cells cs t fr) := by
    have : hp w g = some (.cells cs t fr) := by rw [h2]; simp [Hp.join, hh]
    exact this
  have := hc j v (by rw [← Array.getElem?_toList]; exact hv)
  simp [World.cell?, e, this]
/-- The load of a message out of a variable of its own. -/
theorem wpList_load_msg {ops : Array Oper} {rest : List Oper} {op : Oper} {a : Act} {w w0 : World} {S : Asn} {Q : Exit → Act → World → Prop} {g : Nat} {k : MsgV} [m : Mod w w0 S] (hgd : op.guard = none) {x : Operand} (ho : op.op = .load 98 x)
    (hx : a.eval x = .pointer (some ⟨g, 0, none⟩)) [h : HasMsg S g k] (hk : wpList Tryz.prog ops Q rest (a.put op.dst (.agg k.cells)) w) : wpList Tryz.prog ops Q (op :: rest) a w := by
  obtain ⟨fs, hu⟩ := und_msg
  refine wpList_load_mid hgd 98 x ho g 0 hx k.cells.toList _ range_msg hu rfl (by rw [size_msg]; rfl) ?_
  simpa using hk
/-- .. out of a row that is read. -/
theorem wpList_load_row {ops : Array Oper} {rest : List Oper} {op : Oper} {a : Act} {w : World} {Q : Exit → Act → World → Prop} {g o : Nat} {k : MsgV} (hc : ∀ (j : Nat) v, k.cells[j]? = some v → w.cell? ⟨g, o + j, none⟩ = some v) (hgd : op.guard = none) {x : Operand} (ho : op.op = .load 98 x)
    (hx : a.eval x = .pointer (some ⟨g, o, none⟩)) (hk : wpList Tryz.prog ops Q rest (a.put op.dst (.agg k.cells)) w) : wpList Tryz.prog ops Q (op :: rest) a w := by
  obtain ⟨fs, hu⟩ := und_msg
  refine wpList_load_mid hgd 98 x ho g o hx k.cells.toList _ (fun j v hv => hc j v (by rw [← Array.getElem?_toList]; exact hv)) hu rfl (by rw [size_msg]; rfl) ?_
  simpa using hk
/-- The store of a message into a variable of its own. -/
theorem wpList_store_msg {ops : Array Oper} {rest : List Oper} {op : Oper} {a : Act} {w w0 : World} {S F : Asn} {Q : Exit → Act → World → Prop} {g : Nat} {cs : Array Value} {k : MsgV} (h1 : ∀ v ∈ k.cells.toList, v.oneCell' = true) [m : Mod w w0 S] (hgd : op.guard = none) {x y : Operand} (ho : op.op = .store 98 x y) (hx : a.eval x = .pointer (some ⟨g, 0, none⟩)) (hy : a.eval y = .agg k.cells)
    [t : Take S (blk g) (.cells cs 98 (0, 0)) F] (hs : cs.size = 16) (h : ∀ w', Mod w' w0 (blk g (.cells k.cells 98 (0, 0)) * F) → wpList Tryz.prog ops Q rest (a.put op.dst undef) w') : wpList Tryz.prog ops Q (op :: rest) a w := by
  have hh : Has S g (.cells cs 98 (0, 0)) := by rw [t.eq]; infer_instance
  have m1 : Mod w w0 (blk g (.cells cs 98 (0, 0)) * F) := by rw [← t.eq]; exact m
  refine wpList_store_mid hgd 98 x y ho g 0 k.cells hx hy (fun j hj => ?_) (by rw [size_msg]; rfl) (Array.all_eq_true_iff_forall_mem.2 fun v hv => h1 v (by simpa using hv)) (h _ ?_)
  · have hc := @cell_of w w0 S g j cs 98 (0, 0) m hh
    have hf := @frozen_of w w0 S g j cs 98 m hh
    rw [Nat.zero_add, hc, hf]
    have hj2 : j < 16 := hj
    exact ⟨by rw [Array.getElem?_eq_getElem (by omega)]; rfl, rfl⟩
  · have := mod_setMany k.cells.toList 0 w cs m1
    rw [setMany_all cs k.cells (by rw [hs]; rfl)] at this
    exact this
theorem DecSt.drop {x p : Nat} {s : Dp} {K F : Asn} {w0 w : World} (m : DecSt x p s (K * F) w0 w) : DecSt x p s F w0 w := by
  obtain ⟨Z, mZ, hZ⟩ := m.opened
  exact hZ _ _ (Mod.drop (A := K) (m := Mod.to (m := mZ) (sep_left_comm _ _ _)))
theorem as9_ok {S : Asn} {y : MsgV} {has : List Nat} (h : MsgOk S y has) (h1 : ∀ v ∈ y.as9.cells.toList, v.oneCell' = true) : MsgOk S y.as9 has := ⟨(show 9 < 256 by decide), h.from_, h.to, h.epoch, h.haN, h.small, h.rd, h.ok, h1⟩
theorem as6_ok {S : Asn} {y : MsgV} {has : List Nat} (h : MsgOk S y has) (h1 : ∀ v ∈ y.as6.cells.toList, v.oneCell' = true) : MsgOk S y.as6 has := ⟨(show 6 < 256 by decide), h.from_, (show 0 < 256 by decide), (show 2 < 4294967296 by decide), h.haN, h.small, h.rd, h.ok, h1⟩
theorem one_tail {y y' : MsgV} (h : ∀ v ∈ y.cells.toList, v.oneCell' = true) (e : y'.cells.toList.drop 8 = y.cells.toList.drop 8) : ∀ v ∈ y'.cells.toList, v.oneCell' = true := by
  intro v hv
  rw [← List.take_append_drop 8 y'.cells.toList] at hv
  rcases List.mem_append.1 hv with h1 | h1
  · exact List.all_eq_true.1 (show (y'.cells.toList.take 8).all (·.oneCell') = true from rfl) v h1
  · rw [e] at h1; exact h v (List.mem_of_mem_drop h1)
theorem as9_one {y : MsgV} (h : ∀ v ∈ y.cells.toList, v.oneCell' = true) : ∀ v ∈ y.as9.cells.toList, v.oneCell' = true := one_tail h rfl
theorem as6_one {y : MsgV} (h : ∀ v ∈ y.cells.toList, v.oneCell' = true) : ∀ v ∈ y.as6.cells.toList, v.oneCell' = true := one_tail h rfl
end Go.Proofs.YtkdiejbpleojnaaGreatDoor
