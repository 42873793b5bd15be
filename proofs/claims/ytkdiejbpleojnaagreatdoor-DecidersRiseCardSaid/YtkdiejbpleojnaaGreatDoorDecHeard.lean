/- What a decider holds beside what was heard of each node: plain lemmas. -/
import Derived.Test.YtkdiejbpleojnaaGreatDoorDecSG
namespace Go.Proofs.YtkdiejbpleojnaaGreatDoor
open Go.RowKit Go.Sl
/-- what is noted of an answer -/
def noted (a : AnsV) : Nat := if a.level = 1 ∧ 1 ≤ a.sure then 1 else 2
/-- The second chain is wanted, and some answers were heard. -/
structure Heard (first join : List Nat) (k : Kn) (hs : List Nat) (s : Dp) : Prop where
  ok : DpOk s
  kn : s.kn = { k with most := 2 }
  seals : s.seals = true
  joinE : s.join = join
  len : hs.length = 256
  has : ∀ n ∈ first ++ join, hs.getD n 0 = match s.an n with
    | none => 0
    | some a => noted a
theorem noted_pos (a : AnsV) : noted a ≠ 0 := by unfold noted; split <;> decide
theorem first_most {first : List Nat} {k : Kn} (hk : FirstKn first k) : ({ k with most := k.most + 1 } : Kn) = { k with most := 2 } := by rw [hk.most]
theorem heard_start {first join : List Nat} {s : Dp} {k : Kn} (h : Led first false 0 0 s) (hk : FirstKn first k) (hs : s.kn = k) (hj : joinOk first join) : Heard first join k (List.replicate 256 0) (s.want join) := by
  refine ⟨want_ok h.ok (by rw [hs, hk.most]; decide) (by rw [h.chain.nodes]; exact hj), by rw [← first_most hk, ← hs]; rfl, rfl, rfl, List.length_replicate, fun n _ => ?_⟩
  show (List.replicate 256 0).getD n 0 = 0
  rw [List.getD_eq_getElem?_getD, List.getElem?_replicate]
  split <;> rfl
theorem getD_set {l : List Nat} {i n v : Nat} (hi : i < l.length) : (l.set i v).getD n 0 = if n = i then v else l.getD n 0 := by
  rw [List.getD_eq_getElem?_getD, List.getD_eq_getElem?_getD, List.getElem?_set]
  by_cases h : i = n
  · rw [if_pos h, if_pos h.symm, if_pos hi]; rfl
  · rw [if_neg h, if_neg (fun e => h e.symm)]
/-- An answer that is heard. -/
theorem heard_step {first join : List Nat} {k : Kn} (hk : FirstKn first k) {hs : List Nat} {s : Dp} (h : Heard first join k hs s) {y : MsgV} {has : List Nat} (ha : AnsOk (y.ans has)) (he : y.epoch = 2) (h4 : y.from_ ≤ 4) :
    Heard first join k (if hs.getD y.from_ 0 = 0 then hs.set y.from_ (noted (y.ans has)) else hs) (s.cameS y has) := by
  have hok := Dp.cameS_ok h.ok ha
  have hmem : s.members = first ++ join := by
    unfold Dp.members
    rw [h.joinE, h.kn]
    show k.nodes ++ join = _
    rw [hk.chain.nodes]
  have hl : y.from_ < hs.length := by rw [h.len]; omega
  have hm0 : y.epoch = s.kn.most := by rw [he, h.kn]
  by_cases c : y.from_ ∈ first ++ join ∧ s.an y.from_ = none
  · have eS : s.cameS y has = { s with an := fun n => if n = y.from_ then some (y.ans has) else s.an n } := by
      unfold Dp.cameS; rw [hmem, if_pos ⟨h.seals, hm0, c.1, c.2⟩]
    rw [eS] at hok ⊢
    have h0 : hs.getD y.from_ 0 = 0 := by have := h.has _ c.1; rw [c.2] at this; exact this
    rw [if_pos h0]
    refine ⟨hok, h.kn, h.seals, h.joinE, by rw [List.length_set]; exact h.len, fun n hn => ?_⟩
    rw [getD_set hl]
    by_cases hn2 : n = y.from_
    · show _ = match (if n = y.from_ then some (y.ans has) else s.an n) with
        | none => 0
        | some a => noted a
      rw [if_pos hn2, if_pos hn2]
    · show _ = match (if n = y.from_ then some (y.ans has) else s.an n) with
        | none => 0
        | some a => noted a
      rw [if_neg hn2, if_neg hn2]
      exact h.has n hn
  · have eS : s.cameS y has = s := by unfold Dp.cameS; rw [hmem, if_neg (fun d => c ⟨d.2.2.1, d.2.2.2⟩)]
    rw [eS]
    by_cases h0 : hs.getD y.from_ 0 = 0
    · rw [if_pos h0]
      have hm : y.from_ ∉ first ++ join := fun hm => by
        cases ha2 : s.an y.from_ with
        | none => exact c ⟨hm, ha2⟩
        | some a =>
          have h1 := h.has _ hm
          rw [ha2, h0] at h1
          exact noted_pos a h1.symm
      refine ⟨h.ok, h.kn, h.seals, h.joinE, by rw [List.length_set]; exact h.len, fun n hn => ?_⟩
      rw [getD_set hl, if_neg (fun c => hm (by rw [← c]; exact hn))]
      exact h.has n hn
    · rw [if_neg h0]; exact h
/-- Those that have all, and those that join and answered. -/
def keptOf2 (first : List Nat) (hs : List Nat) : List Nat := first.filter fun n => hs.getD n 0 = 1
def joinedOf (join : List Nat) (hs : List Nat) : List Nat := join.filter fun n => hs.getD n 0 ≠ 0
theorem heard_all {first join : List Nat} {k : Kn} (hk : FirstKn first k) {hs : List Nat} {s : Dp} (h : Heard first join k hs s) {i : Nat} (hi : i < first.length) : s.allB i = decide (hs.getD (s.kn.c i) 0 = 1) := by
  have hc : s.kn.c i ∈ first := by
    rw [h.kn]
    show k.c i ∈ first
    rw [hk.chain.c, List.getD_eq_getElem?_getD, List.getElem?_eq_getElem hi]; exact List.getElem_mem _
  have h0 := h.has _ (List.mem_append_left _ hc)
  have hix : s.kn.index = 2 := by rw [h.kn]; exact hk.index
  have hep : s.kn.epoch = 1 := by rw [h.kn]; exact hk.epoch
  unfold Dp.allB
  cases ha : s.an (s.kn.c i) with
  | none => rw [ha] at h0; rw [h0]; rfl
  | some a =>
    rw [ha] at h0
    have h1 : hs.getD (s.kn.c i) 0 = noted a := h0
    rw [h1, hix, hep]
    unfold noted
    simp only
    by_cases c1 : a.level = 1 <;> by_cases c2 : 1 ≤ a.sure <;> simp [c1, c2]
theorem heard_kept {first join : List Nat} {k : Kn} (hk : FirstKn first k) {hs : List Nat} {s : Dp} (h : Heard first join k hs s) : s.kept s.kn.many = keptOf2 first hs := by
  have hm : s.kn.many = first.length := by rw [h.kn]; exact hk.chain.many
  have hn : first = (List.range first.length).map s.kn.c := by
    have := nodes_map h.ok.kn.many
    rw [hm] at this
    rw [← this, h.kn]
    exact hk.chain.nodes.symm
  unfold Dp.kept keptOf2
  rw [hm]
  conv => rhs; rw [hn]
  rw [List.filter_map]
  congr 1
  refine List.filter_congr fun i hi => ?_
  exact heard_all hk h (List.mem_range.1 hi)
theorem heard_joined {first join : List Nat} {k : Kn} {hs : List Nat} {s : Dp} (h : Heard first join k hs s) : s.joined s.join.length = joinedOf join hs := by
  unfold Dp.joined joinedOf
  rw [List.take_length, h.joinE]
  refine List.filter_congr fun n hn => ?_
  have h0 := h.has n (List.mem_append_right _ hn)
  cases ha : s.an n with
  | none => rw [ha] at h0; rw [h0]; rfl
  | some a => rw [ha] at h0; rw [h0]; simp [noted_pos]
/-- The second chain. -/
structure NextKn (l : List Nat) (k : Kn) : Prop where
  ok : KnOk k
  chain : ChainOf k l
  epoch : k.epoch = 2
  index : k.index = 0
  holder : k.holder ≤ 4
  le : k.epoch ≤ k.most
theorem heard_made {first join : List Nat} {k : Kn} (hk : FirstKn first k) {hs : List Nat} {s : Dp} (h : Heard first join k hs s) (h0 : keptOf2 first hs ≠ []) : ∃ k2, s.decide = .made k2 ∧ NextKn (keptOf2 first hs ++ joinedOf join hs) k2 := by
  have hm4 := h.ok.kn.many
  have hkc := s.keepN_chain h.ok.chain.once hm4 _ (Nat.le_refl _)
  have hko := Dp.keepN_ok h.ok _ (Nat.le_refl _)
  have hkn := keepN_num s s.kn.many
  rw [heard_kept hk h] at hkc
  have hsub : (keptOf2 first hs).Sublist s.kn.nodes := by rw [← heard_kept hk h]; exact s.kept_sub (Nat.le_refl _) hm4
  have hone : OnceIn (keptOf2 first hs ++ s.join) := (h.ok.once h.seals).sub (List.Sublist.append hsub (List.Sublist.refl _))
  have hjc := s.joinN_chain hkc hone _ (Nat.le_refl _)
  rw [heard_joined h] at hjc
  have hlen : 0 < (keptOf2 first hs).length := List.length_pos_iff.2 h0
  have hk1 : (s.keepN s.kn.many).many ≠ 0 := by rw [hkc.many]; omega
  have hroom : (s.keepN s.kn.many).many + s.join.length ≤ 4 := by have := h.ok.room h.seals; have := s.keepN_many s.kn.many; omega
  have hjo := Dp.joinN_ok (s := s) hko (fun n hn => (h.ok.jn4 h.seals n hn).2) hroom _ (Nat.le_refl _)
  have hjn := joinN_num s (s.keepN s.kn.many) s.join.length
  have hk2 : (s.joinN (s.keepN s.kn.many) s.join.length).many ≠ 0 := by rw [hjc.many, List.length_append]; omega
  have hd : s.decide = .made (s.makes (s.joinN (s.keepN s.kn.many) s.join.length) 0) := by
    unfold Dp.decide
    rw [if_neg (by rw [h.seals]; decide)]
    simp only
    rw [if_pos (.inl (Nat.pos_of_ne_zero hk1)), if_neg hk2, if_neg hk1]
  refine ⟨_, hd, Dp.makes_ok h.ok hjo (by decide), Dp.makes_chain hjc 0, ?_, rfl, ?_, ?_⟩
  · have hS := s.livesN_same (s.joinN (s.keepN s.kn.many) s.join.length) (s.joinN (s.keepN s.kn.many) s.join.length).many
    exact hS.most.trans (hjn.most.trans (hkn.most.trans (by rw [h.kn])))
  · have hS := s.livesN_same (s.joinN (s.keepN s.kn.many) s.join.length) (s.joinN (s.keepN s.kn.many) s.join.length).many
    have : (s.makes (s.joinN (s.keepN s.kn.many) s.join.length) 0).holder = 0 := hS.holder.trans (hjn.holder.trans (hkn.holder.trans (by rw [h.kn]; exact hk.holder)))
    rw [this]; decide
  · exact Nat.le_refl _
theorem heard_none {first join : List Nat} {k : Kn} (hk : FirstKn first k) {hs : List Nat} {s : Dp} (h : Heard first join k hs s) (hf : 0 < first.length) (h0 : keptOf2 first hs = []) : s.decide = .state ∨ ∃ k2, s.decide = .made k2 ∧ k2.many = 1 ∧ k2.index = 2 := by
  have hm4 := h.ok.kn.many
  have hkc := s.keepN_chain h.ok.chain.once hm4 _ (Nat.le_refl _)
  rw [heard_kept hk h, h0] at hkc
  have hk1 : (s.keepN s.kn.many).many = 0 := hkc.many
  have hm : s.kn.many ≠ 0 := by rw [h.kn]; show k.many ≠ 0; rw [hk.chain.many]; omega
  have hho : s.kn.holder = 0 := by rw [h.kn]; exact hk.holder
  have hd : s.decide = s.disk (s.keepN s.kn.many) (s.lacksN s.kn.many) := by
    unfold Dp.decide
    rw [if_neg (by rw [h.seals]; decide)]
    simp only
    rw [if_neg (by rw [hk1]; rintro (c | c); exact absurd c (by decide); exact hm c)]
  rw [hd]
  cases s.lacksN s.kn.many with
  | true => left; unfold Dp.disk; rw [if_pos rfl]
  | false =>
    right
    rw [disk_zero hho]
    refine ⟨_, rfl, ?_, rfl⟩
    have hS := s.livesN_same ((s.keepN s.kn.many).put (s.kn.c 0) 0) ((s.keepN s.kn.many).put (s.kn.c 0) 0).many
    show (s.livesN _ _).many = 1
    rw [hS.many]
    show (s.keepN s.kn.many).many + 1 = 1
    rw [hk1]
end Go.Proofs.YtkdiejbpleojnaaGreatDoor
