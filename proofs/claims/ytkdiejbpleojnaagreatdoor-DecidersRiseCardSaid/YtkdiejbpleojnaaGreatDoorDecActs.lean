/- What a decider's calls leave, of any state in its course: contracts over the small separation logic; the conditions are in each theorem. -/
import Derived.Test.YtkdiejbpleojnaaGreatDoorDecAgain
import Derived.Test.YtkdiejbpleojnaaGreatDoorDecTick
import Derived.Test.YtkdiejbpleojnaaGreatDoorDecLaw
namespace Go.Proofs.YtkdiejbpleojnaaGreatDoor
open Go.RowKit Go.Sl
/-- What Want leaves. -/
def WantAny (x p : Nat) (s : Dp) (join : List Nat) (F : Asn) (w0 : World) (e : Ending) (w' : World) : Prop :=
  (∃ z : Int, z ≠ 0 ∧ e = .returned (.tuple #[.slice none 0 0, .int .i64 z]) ∧ DecSt x p s F w0 w') ∨
  (∃ (b o n : Nat) (K : Asn), 0 < n ∧ n = s.kn.many + join.length ∧ CellAt K b (o + 3) (vu32 (s.kn.most + 1)) ∧ Goes (s.want join) ∧ e = .returned (.tuple #[.slice (some ⟨b, o, none⟩) n n, .int .i64 0]) ∧ DecSt x p (s.want join) (K * F) w0 w')
theorem seal_first {l : List Nat} (h : 0 < l.length) (most : Nat) : (sealCells l most)[3]? = some (vu32 most) := by
  match l, h with
  | a :: l, _ => rfl
theorem want_any {x p : Nat} {s : Dp} (hg : Goes s) (hm : s.kn.most < 4294967295) (A : Option Addr) (n c : Nat) (join : List Nat) (w w0 : World) (F : Asn) (m : DecSt x p s F w0 w) (r : Reads F A n (n8s join)) (hn : n ≤ c) (hn2 : n ≤ 140737488355328) : Calls Tryz.prog 50 #[ptr x, .slice A n c] w (WantAny x p s join F w0) := by
  cases hl : s.kn.lost with
  | true =>
    refine (want_lost x p s hl A n c w w0 F m).mono ?_
    rintro e w' ⟨rfl, m2⟩
    exact .inl ⟨9, by decide, rfl, m2⟩
  | false =>
    refine (want_st x p s hg.ok hl hm A n c join w w0 F m r hn hn2).mono ?_
    rintro e w' (⟨_, rfl, m2⟩ | ⟨hj, B, cB, rfl, m2⟩)
    · exact .inl ⟨1, by decide, rfl, m2⟩
    · have hlen : (s.kn.nodes ++ join).length = s.kn.many + join.length := by rw [List.length_append, nodes_len hg.ok.kn.many]
      have h0 : 0 < s.kn.many + join.length := by have := hj.2; rw [nodes_len hg.ok.kn.many] at this; omega
      obtain ⟨Z, mZ, _⟩ := m2.opened
      have rK : Reads (rowA 98 16 (.slice B (s.kn.many + join.length) cB) (s.kn.many + join.length) (sealCells (s.kn.nodes ++ join) (s.kn.most + 1))) B ((s.kn.many + join.length) * 16) (sealCells (s.kn.nodes ++ join) (s.kn.most + 1)) := reads_rown (by decide)
      obtain ⟨⟨b, o, sp⟩, hB, hsp, _⟩ := reads_cell mZ (reads_lift inferInstance rK) (by omega)
      simp only at hsp
      subst hsp hB
      exact .inr ⟨b, o, _, _, h0, rfl, reads_at_cell rK (by omega) 3 (seal_first (by omega) _), goes_want hg hl hm hj, rfl, m2⟩
/-- What Decide leaves. -/
def DecideAny (x p : Nat) (s : Dp) (F : Asn) (w0 : World) (e : Ending) (w' : World) : Prop :=
  (e = .returned (.tuple #[.slice none 0 0, .int .i64 9]) ∧ DecSt x p s F w0 w') ∨
  (e = .returned (.tuple #[.slice none 0 0, .int .i64 0]) ∧ ∃ s', Goes s' ∧ s'.kn.epoch = s.kn.epoch ∧ s'.kn.most = s.kn.most ∧ DecSt x p s' F w0 w') ∨
  (∃ (s' : Dp) (b o n : Nat) (K : Asn), 0 < n ∧ n ≤ 4 ∧ e = .returned (.tuple #[.slice (some ⟨b, o, none⟩) n n, .int .i64 0]) ∧ CellAt K b (o + 3) (vu32 s.kn.most) ∧ Goes s' ∧ s'.kn.epoch = s.kn.most ∧ s'.kn.most = s.kn.most ∧ DecSt x p s' (K * F) w0 w')
theorem decide_any {x p : Nat} {s : Dp} (hg : Goes s) (w w0 : World) (F : Asn) (m : DecSt x p s F w0 w) : Calls Tryz.prog 52 #[ptr x] w (DecideAny x p s F w0) := by
  cases hsl : s.seals with
  | false =>
    refine (decide_state x p s hsl w w0 F m).mono ?_
    rintro e w' ⟨rfl, m2⟩
    exact .inl ⟨rfl, m2⟩
  | true =>
    refine (decide_spec x p s hg.ok hsl w w0 F m).mono ?_
    intro e w' hR
    cases hd : s.decide with
    | state =>
      rw [hd] at hR
      exact .inl hR
    | lost =>
      rw [hd] at hR
      exact .inr (.inl ⟨hR.1, _, goes_lost hg, rfl, rfl, hR.2⟩)
    | made k =>
      rw [hd] at hR
      obtain ⟨C, c, ys, G, rfl, hys, hact, m2⟩ := hR
      have hk := decide_made hg.ok hsl hd
      have h0 := hk.many
      have e3 : (ys.flatMap fun y => y.cells.toList)[3]? = some (vu32 s.kn.most) := by
        match ys, hys, hact with
        | [], hys, _ => simp at hys; omega
        | y :: ys, _, hact =>
          have h3 := (hact 0 (by simp)).epoch
          simp only [List.getElem_cons_zero] at h3
          rw [← hk.epoch, ← h3]
          rfl
      rw [← sep_assoc] at m2
      obtain ⟨Z, mZ, _⟩ := m2.opened
      have rK : Reads (rowA 98 16 (.slice C k.many c) k.many (ys.flatMap fun y => y.cells.toList)) C (k.many * 16) (ys.flatMap fun y => y.cells.toList) := reads_rown (by decide)
      obtain ⟨⟨b, o, sp⟩, hB, hsp, _⟩ := reads_cell mZ (reads_lift inferInstance rK) (by omega)
      simp only at hsp
      subst hsp hB
      have cA := reads_at_cell rK (by omega) 3 e3
      exact .inr (.inr ⟨_, b, o, _, _, h0, hk.ok.many, rfl, CellAt.left _ G b (o + 3) _ (ha := cA), goes_made hg hsl hd, hk.epoch, hk.most, m2⟩)
/-- What another call leaves. -/
def SomeAny (x p : Nat) (s : Dp) (F : Asn) (w0 : World) (e : Ending) (w' : World) : Prop := ∃ (a b : Value) (s' : Dp), e = .returned (.tuple #[a, b]) ∧ Goes s' ∧ s'.kn.epoch = s.kn.epoch ∧ s'.kn.most = s.kn.most ∧ DecSt x p s' F w0 w'
theorem came_any {x p : Nat} {s : Dp} (hg : Goes s) (y : MsgV) (has : List Nat) (w w0 : World) (F : Asn) (m : DecSt x p s F w0 w) (hy : MsgOk F y has) : Calls Tryz.prog 55 #[ptr x, .agg y.cells] w (SomeAny x p s F w0) := by
  refine (came_st x p s hg.ok y has w w0 F m hy).mono ?_
  rintro e w' (⟨_, rfl, m2⟩ | ⟨⟨_, _, h4⟩, ⟨_, rfl, m2⟩ | ⟨_, ⟨_, rfl, m2⟩ | ⟨_, B, K, rfl, _, m2⟩⟩⟩)
  · exact ⟨_, _, s, rfl, hg, rfl, rfl, m2⟩
  · exact ⟨_, _, _, rfl, goes_cameS hg hy.ok, by rw [kn_cameS], by rw [kn_cameS], m2⟩
  · exact ⟨_, _, s, rfl, hg, rfl, rfl, m2⟩
  · exact ⟨_, _, _, rfl, goes_cameR hg h4 hy.ok.num, rfl, rfl, m2.drop⟩
theorem tick_any {x p : Nat} {s : Dp} (hg : Goes s) (w w0 : World) (F : Asn) (m : DecSt x p s F w0 w) : Calls Tryz.prog 56 #[ptr x] w (SomeAny x p s F w0) := by
  cases hsl : s.seals with
  | false =>
    refine (tick_goes x p s hg.ok hsl w w0 F m).mono ?_
    rintro e w' ⟨⟨a, b, rfl⟩, m2⟩
    exact ⟨a, b, s, rfl, hg, rfl, rfl, m2⟩
  | true =>
    refine (tick_seals x p s hg.ok hsl w w0 F m).mono ?_
    rintro e w' ⟨⟨a, b, rfl⟩, m2⟩
    exact ⟨a, b, s, rfl, hg, rfl, rfl, m2⟩
/-- What Reset leaves. -/
def ResetAny (x p : Nat) (s : Dp) (F : Asn) (w0 : World) (e : Ending) (w' : World) : Prop := ∃ (z : Int) (s' : Dp), e = .returned (.int .i64 z) ∧ Goes s' ∧ s'.kn.epoch = s.kn.epoch ∧ s'.kn.most = s.kn.most ∧ DecSt x p s' F w0 w'
theorem reset_any {x p : Nat} {s : Dp} (hg : Goes s) (w w0 : World) (F : Asn) (m : DecSt x p s F w0 w) : Calls Tryz.prog 53 #[ptr x] w (ResetAny x p s F w0) := by
  cases hl : s.kn.lost with
  | false =>
    refine (reset_no x p s hl w w0 F m).mono ?_
    rintro e w' ⟨rfl, m2⟩
    exact ⟨_, s, rfl, hg, rfl, rfl, m2⟩
  | true =>
    refine (reset_yes x p s hg.ok hl w w0 F m).mono ?_
    rintro e w' ⟨rfl, m2⟩
    exact ⟨_, _, rfl, goes_reset hg hl, rfl, rfl, m2⟩
end Go.Proofs.YtkdiejbpleojnaaGreatDoor
