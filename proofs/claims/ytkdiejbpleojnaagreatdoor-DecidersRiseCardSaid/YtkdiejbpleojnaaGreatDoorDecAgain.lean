/- A decider's disk fails, and a decider is made of what is left: contracts over the small separation logic; the conditions are in each theorem. -/
import Derived.Test.YtkdiejbpleojnaaGreatDoorDecNewR
import Derived.Test.YtkdiejbpleojnaaGreatDoorDecLaw
namespace Go.Proofs.YtkdiejbpleojnaaGreatDoor
open Go.RowKit Go.Sl
/-- What is left of a decider's disk. -/
theorem fail_st (x p : Nat) (s : Dp) (w w0 : World) (F : Asn) (m : DecSt x p s F w0 w) (keep : Nat) (names : Bool) (hk : keep ≤ 9223372036854775807) : Calls Tryz.prog 29 #[ptr p, .int .i64 (keep : Int), .bool names] w fun e w' =>
    ∃ (p' : Nat) (v : DecV) (D : DiskSt) (g : Nat) (ks : List Kn) (b : List UInt8), e = .returned (.tuple #[ptr p', .int .i64 0]) ∧ v.kn = s.kn ∧ DecOk v D g ks b ∧ DecSt x p s (diskA p' D * F) w0 w' := by
  obtain ⟨v, D, g, j, ks, b, G, hat, m⟩ := m
  have ok := hat.ok
  refine (fail_ok p D w w0 _ (decB x v * (jourA j p v.name b.length * (G * F))) m ⟨by ac_rfl⟩ keep names hk).mono ?_
  rintro e w' ⟨p', M, rfl, hM, _, _, m'⟩
  have hl : namesLeft D names = [(v.name, g)] := by
    unfold namesLeft
    cases names
    · exact ok.sure
    · exact ok.now
  have hkf : keptOf D keep g = ⟨b, b.length⟩ := by
    unfold keptOf
    rw [ok.file]
    exact kept_sure keep b
  rw [hl] at hM
  simp only [List.map_cons, List.map_nil, hkf] at hM
  obtain ⟨g', rfl⟩ := made_one hM
  refine ⟨p', v, _, g', ks, b, rfl, hat.kn, ?_, v, D, g, j, ks, b, G, hat, Mod.to (m := m') (by ac_rfl)⟩
  exact ⟨ok.size, rfl, rfl, by simp [Made.tab, fget], ok.jour, ok.lines, ok.most, ok.last, ok.name, ok.good⟩
/-- A decider that is made of it, beside the one that was. -/
theorem again_st (x p p' : Nat) (s : Dp) (v : DecV) (D : DiskSt) (g : Nat) (ks : List Kn) (b : List UInt8) (w w0 : World) (F : Asn) (hv : v.kn = s.kn) (ok : DecOk v D g ks b) (m : DecSt x p s (diskA p' D * F) w0 w) : Calls Tryz.prog 54 #[ptr p'] w fun e w' =>
    ∃ (x' : Nat) (Z : Asn), e = .returned (.tuple #[ptr x', .int .i64 0]) ∧ DecSt x' p' s.again (Z * F) w0 w' ∧ ∀ w2 F2, Mod w2 w0 (Z * F2) → DecSt x p s F2 w0 w2 := by
  obtain ⟨Z, mZ, hZ⟩ := m.opened
  refine (new_records p' v D g ks b ok w w0 (Z * F) (Mod.to (m := mZ) (by ac_rfl))).mono ?_
  rintro e w' ⟨x', nm, j, g2, D2, b2, rfl, ok2, m2⟩
  refine ⟨x', Z, rfl, ⟨{ blankV p' with pj := some j, name := nm, lines := 1, kn := v.kn }, D2, g2, j, _, b2, emp, ⟨rfl, rfl, hv, rfl, rfl, reads_nil, fun n hn => ?_, ok2⟩, ?_⟩, hZ⟩
  · match n, hn with
    | 0, _ | 1, _ | 2, _ | 3, _ | 4, _ => exact .no
  · rw [emp_sep]; exact m2
end Go.Proofs.YtkdiejbpleojnaaGreatDoor
