/- A decider's plain states, one after the other: plain lemmas. -/
import Derived.Test.YtkdiejbpleojnaaGreatDoorDecHeard
import Derived.Test.YtkdiejbpleojnaaGreatDoorDecReset
namespace Go.Proofs.YtkdiejbpleojnaaGreatDoor
open Go.RowKit Go.Sl
/-- A decider in its course. -/
structure Goes (s : Dp) : Prop where
  ok : DpOk s
  lost : s.kn.lost = true → s.seals = false
/-- A chain that was made. -/
structure MadeKn (s : Dp) (k : Kn) : Prop where
  ok : KnOk k
  chain : ∃ l, ChainOf k l
  holder : k.holder ≤ 4
  epoch : k.epoch = s.kn.most
  most : k.most = s.kn.most
  lost : k.lost = s.kn.lost
  many : 0 < k.many
theorem made_makes {s : Dp} (hs : DpOk s) {k : Kn} {l : List Nat} (hk : KnOk k) (hc : ChainOf k l) (h4 : k.holder ≤ 4) (hm : k.most = s.kn.most) (hl : k.lost = s.kn.lost) (h0 : 0 < l.length) {ix : Nat} (hi : ix < 18446744073709551616) : MadeKn s (s.makes k ix) := by
  have hS := s.livesN_same k k.many
  refine ⟨Dp.makes_ok hs hk hi, ⟨l, Dp.makes_chain hc ix⟩, ?_, hS.most.trans hm, hS.most.trans hm, hS.lost.trans hl, ?_⟩
  · show (s.livesN k k.many).holder ≤ 4
    rw [hS.holder]; exact h4
  · show 0 < (s.livesN k k.many).many
    rw [hS.many, hc.many]; exact h0
theorem decide_made {s : Dp} (hs : DpOk s) (hsl : s.seals = true) {k : Kn} (hd : s.decide = .made k) : MadeKn s k := by
  have hm4 := hs.kn.many
  have hkc := s.keepN_chain hs.chain.once hm4 _ (Nat.le_refl _)
  have hko := Dp.keepN_ok hs _ (Nat.le_refl _)
  have hkn := keepN_num s s.kn.many
  have hsub : (s.kept s.kn.many).Sublist s.kn.nodes := s.kept_sub (Nat.le_refl _) hm4
  have hone : OnceIn (s.kept s.kn.many ++ s.join) := (hs.once hsl).sub (List.Sublist.append hsub (List.Sublist.refl _))
  have hjc := s.joinN_chain hkc hone _ (Nat.le_refl _)
  have hroom : (s.keepN s.kn.many).many + s.join.length ≤ 4 := by have := hs.room hsl; have := s.keepN_many s.kn.many; omega
  have hjo := Dp.joinN_ok (s := s) hko (fun n hn => (hs.jn4 hsl n hn).2) hroom _ (Nat.le_refl _)
  have hjn := joinN_num s (s.keepN s.kn.many) s.join.length
  unfold Dp.decide at hd
  rw [if_neg (by rw [hsl]; decide)] at hd
  simp only at hd
  split at hd
  · split at hd
    · cases hd
    · rename_i h2
      have hlen : 0 < (s.kept s.kn.many ++ s.joined s.join.length).length := by rw [← hjc.many]; omega
      have hh : (s.joinN (s.keepN s.kn.many) s.join.length).holder ≤ 4 := by rw [hjn.holder, hkn.holder]; exact hs.holder
      split at hd
      · injection hd with hd
        subst hd
        exact made_makes hs (had0_ok hjo) ⟨hjc.chain, hjc.many, hjc.once⟩ hh (hjn.most.trans hkn.most) (hjn.lost.trans hkn.lost) hlen (by decide)
      · injection hd with hd
        subst hd
        exact made_makes hs hjo hjc hh (hjn.most.trans hkn.most) (hjn.lost.trans hkn.lost) hlen (by decide)
  · rename_i h1
    have h0 : (s.keepN s.kn.many).many = 0 := Nat.eq_zero_of_not_pos fun h => h1 (.inl h)
    have hmany : 0 < s.kn.many := Nat.pos_of_ne_zero fun h => h1 (.inr h)
    have hk0 : s.kept s.kn.many = [] := List.eq_nil_of_length_eq_zero (by rw [← hkc.many]; exact h0)
    rw [hk0] at hkc
    have hc1 : 1 ≤ s.kn.c 0 ∧ s.kn.c 0 ≤ 4 := by
      have hl0 : 0 < s.kn.nodes.length := by rw [← hs.chain.many]; exact hmany
      have := hs.chain.once.2 _ (List.getElem_mem hl0)
      rw [hs.chain.c, List.getD_eq_getElem?_getD, List.getElem?_eq_getElem hl0]
      exact this
    unfold Dp.disk at hd
    split at hd
    · cases hd
    · split at hd
      · injection hd with hd
        subst hd
        exact made_makes hs (hko.put hc1.2 (by decide) (by omega)) (hkc.put (n := s.kn.c 0) (once_one hc1.1 hc1.2)) (by show (s.keepN _).holder ≤ 4; rw [hkn.holder]; exact hs.holder) hkn.most hkn.lost (by simp) (by decide)
      · rename_i hh0
        split at hd
        · cases hd
        · rename_i a ha
          split at hd
          · rename_i hc
            injection hd with hd
            subst hd
            have hao := hs.an _ a ha
            have hx : a.has.getD 1 0 < 18446744073709551616 := by
              rw [List.getD_eq_getElem?_getD, List.getElem?_eq_getElem (by omega)]
              exact hao.has _ (List.getElem_mem _)
            have hc2 : ChainOf ({ s.keepN s.kn.many with stamp := a.has.getD 0 0 } : Kn) [] := ⟨hkc.chain, hkc.many, hkc.once⟩
            exact made_makes hs ((stamp_ok hko hc.2.2).put hs.holder hx (by show (s.keepN _).many < 4; omega)) (hc2.put (n := s.kn.holder) (once_one (Nat.pos_of_ne_zero hh0) hs.holder)) (by show (s.keepN _).holder ≤ 4; rw [hkn.holder]; exact hs.holder) hkn.most hkn.lost (by simp) (by decide)
          · cases hd
theorem goes_start : Goes Dp.start := ⟨start_ok, fun h => by cases h⟩
theorem goes_want {s : Dp} {join : List Nat} (h : Goes s) (hl : s.kn.lost = false) (hm : s.kn.most < 4294967295) (hj : joinOk s.kn.nodes join) : Goes (s.want join) := ⟨want_ok h.ok hm hj, fun e => by rw [show (s.want join).kn.lost = s.kn.lost from rfl, hl] at e; cases e⟩
theorem goes_made {s : Dp} (h : Goes s) (hsl : s.seals = true) {k : Kn} (hd : s.decide = .made k) : Goes { s with kn := k, seals := false } := by
  have hk := decide_made h.ok hsl hd
  obtain ⟨l, hl⟩ := hk.chain
  exact ⟨dmade_ok h.ok hk.ok hl hk.holder (by rw [hk.epoch, hk.most]; exact Nat.le_refl _), fun _ => rfl⟩
theorem goes_lost {s : Dp} (h : Goes s) : Goes { s with kn := { s.kn with lost := true }, seals := false } := by
  obtain ⟨h1, h2, h3, h4, h5, h6, h7, h8⟩ := h.ok
  exact ⟨⟨gone_ok h1, ⟨h2.chain, h2.many, h2.once⟩, h3, h4, h5, (fun e => by cases e), h7, h8⟩, fun _ => rfl⟩
theorem goes_cameS {s : Dp} (h : Goes s) {y : MsgV} {has : List Nat} (ha : AnsOk (y.ans has)) : Goes (s.cameS y has) := by
  refine ⟨Dp.cameS_ok h.ok ha, ?_⟩
  unfold Dp.cameS
  split
  · exact h.lost
  · exact h.lost
theorem kn_cameS (s : Dp) (y : MsgV) (has : List Nat) : (s.cameS y has).kn = s.kn := by unfold Dp.cameS; split <;> rfl
theorem goes_cameR {s : Dp} (h : Goes s) {y : MsgV} (h4 : y.from_ ≤ 4) (hn : y.num < 4294967296) : Goes (s.cameR y) := ⟨cameR_ok h.ok h4 hn, h.lost⟩
theorem goes_reset {s : Dp} (h : Goes s) (hl : s.kn.lost = true) : Goes s.reset := ⟨reset_ok h.ok (h.lost hl), fun e => by cases e⟩
/-- It fails, and is there again. -/
def _root_.Go.Sl.Dp.again (s : Dp) : Dp := ⟨s.kn, false, [], fun _ => none⟩
theorem goes_again {s : Dp} (h : Goes s) : Goes s.again := ⟨⟨h.ok.kn, h.ok.chain, h.ok.c4, h.ok.holder, Nat.zero_le _, (fun e => by cases e), (fun n a e => by cases e), h.ok.le⟩, fun _ => rfl⟩
end Go.Proofs.YtkdiejbpleojnaaGreatDoor
