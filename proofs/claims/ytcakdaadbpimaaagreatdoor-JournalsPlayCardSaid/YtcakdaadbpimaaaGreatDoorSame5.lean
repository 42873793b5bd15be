/- The law's helper Same: a disk and the reference's disk beside it are found alike. -/
import Derived.Test.YtcakdaadbpimaaaGreatDoorRefPair
import Derived.Test.YtcakdaadbpimaaaGreatDoorPartsG
namespace Go.Proofs.YtcakdaadbpimaaaGreatDoor
open Go.RowKit Go.Sl
attribute [local go_sem] cell_of cellAt_of frozen_of
section
variable {p q : Nat} {D M : DiskSt} {F X : Asn} {w0 w : World}
theorem Both.less (h : Both p q D M (X * F) w0 w) : Both p q D M F w0 w := ⟨Mod.drop (A := X) (m := Mod.to (m := h.mod) (by ac_rfl)), h.ok, h.alike⟩
theorem Both.rest (h : Both p q D M F w0 w) : Mod w w0 F := Mod.drop (m := Mod.drop (m := h.mod))
theorem Both.names (h : Both p q D M F w0 w) : ∃ XS : List ByteArray, (listOf D).map Go.Proofs.encStr = texts XS ∧ (listOf D).length = XS.length ∧ nmTexts M.now = texts XS ∧ M.now.length = XS.length ∧ XS.length ≤ 64 ∧ ∀ s ∈ XS, s.size ≤ 9223372036854775807 := by
  obtain ⟨φ, hb⟩ := h.alike
  refine ⟨M.now.map (·.1), ?_, ?_, ?_, ?_, ?_, ?_⟩
  · rw [hb.list, List.map_map]
    show _ = (M.now.map (·.1)).map Value.string
    rw [List.map_map]
    exact List.map_congr_left fun y _ => rfl
  · rw [hb.list, List.length_map, List.length_map]
  · unfold nmTexts texts
    rw [List.map_map]
    rfl
  · rw [List.length_map]
  · rw [List.length_map, hb.len]; exact h.ok.many
  · intro s hs
    obtain ⟨y, hy, rfl⟩ := List.mem_map.1 hs
    have hk : (y.1, y.2) ∈ M.now := hy
    have h1 := hb.now.subset hk
    obtain ⟨z, hz, e⟩ := List.mem_map.1 h1
    have h2 := h.ok.named z hz
    have e1 : z.1 = y.1 := (Prod.mk.inj e).1
    rw [e1] at h2
    unfold nameOk at h2
    rw [Bool.and_eq_true, Bool.and_eq_true] at h2
    have h3 := of_decide_eq_true h2.1.2
    show y.1.size ≤ _
    omega
set_option maxRecDepth 4000 in
set_option maxHeartbeats 4000000 in
theorem same5_spec (h : Both p q D M F w0 w) : Calls Tryz.prog 29 #[ptr p, ptr q] w fun e w' => e = .returned (.bool true) ∧ Both p q D M F w0 w' := by
  obtain ⟨XS, e1, e2, e3, e4, hmany, hsz⟩ := h.names
  have hal := Lib.hid h.alike
  obtain ⟨n, hn⟩ : ∃ n, XS.length = n := ⟨_, rfl⟩
  have Hn := Lib.hid hn
  rw [hn] at hmany e2 e4
  clear hn
  go_enter Tryz.func29, Tryz.ntmps29
  have flag := True.intro
  go_wp2_with first
    | (go_at_call 59; clear flag; refine (list_spec p D _ w0 _ _ h.mod inferInstance).mono ?_; rw [e1, e2]; rintro e w1 ⟨B1, c1, rfl, m1⟩)
  have flag := True.intro
  go_wp2_with first
    | (go_at_call 61; clear flag; refine (rlist_spec q M _ w0 (rowA 9 1 (.slice B1 n c1) n (texts XS) * (diskA p D * F)) (Mod.to (m := m1) (by ac_rfl))).mono ?_; rw [e3, e4]; rintro e w2 ⟨B2, c2, rfl, m2⟩)
  clear h m1
  have flag := True.intro
  go_wp2_with first
    | (go_at_call 60; clear flag; refine (sameTexts_spec B1 B2 n n c1 c2 XS XS _ w0 _ m2 inferInstance inferInstance (by omega) (by omega)).mono ?_; rw [decide_eq_true rfl]; rintro e w3 ⟨rfl, m3⟩)
  clear m2
  have hB : Both p q D M (rowA 9 1 (.slice B1 n c1) n (texts XS) * F) w0 w3 := .mk' (Mod.drop (A := rowA 9 1 (.slice B2 n c2) n (texts XS)) (m := Mod.to (m := m3) (by ac_rfl))) hal.out
  clear m3
  have flag := True.intro
  go_wp2_with first
    | (go_at_call 32; clear flag; refine (left_pair' _ hB).mono ?_; rintro e w4 ⟨nl, rfl, m4, hc4⟩; have Hc4 := Lib.hid hc4; clear hc4)
  have flag := True.intro
  go_wp2_with first
    | (go_at_call 33; clear flag; refine Hc4.out.mono ?_; rintro e w5 ⟨rfl, h5⟩)
  clear hB m4
  obtain ⟨G, hG, hBG⟩ : ∃ G, rowA 9 1 (.slice B1 n c1) n (texts XS) * F = G ∧ Both p q D M G w0 w5 := ⟨_, rfl, h5⟩
  have HF : Hid (∀ u, Both p q D M G w0 u → Both p q D M F w0 u) := fun u hu => by rw [← hG] at hu; exact hu.less
  have r1 : Reads G B1 n (texts XS) := by rw [← hG]; infer_instance
  have Hr1 := Lib.hid r1
  clear hG h5 r1
  go_loopg [6] n (fun gk iv wr => ∃ i : Nat, i ≤ n ∧ gk = n - i ∧ iv = .int .i64 (i : Int) ∧ Both p q D M G w0 wr)
  case atStart => exact ⟨0, Nat.zero_le _, rfl, rfl, hBG⟩
  case round =>
    obtain ⟨i, hi, hgk, rfl, hB⟩ := hrel
    by_cases hlt : i < n
    · have hii : (i : Int) < (n : Int) := by omega
      have hil : i < XS.length := by rw [Hn.out]; exact hlt
      have hsi := hsz _ (List.getElem_mem hil)
      have r1 := Hr1.out
      obtain ⟨b, o, rfl, k0⟩ := reads_text (m := hB.rest) r1 (by omega)
      have k1 : CellAt G b (o + i) (.string XS[i]) := reads_at_cell r1 (by omega) i (by simp [hil])
      clear k0 r1
      generalize XS[i] = s at *
      have HB := Lib.hid hB
      have mG := hB.rest
      clear hB
      have flag := True.intro
      go_wp2_with first
        | (go_at_call 30; clear flag; refine (size_pair hsi _ HB.out).mono ?_; rintro e w6 ⟨nz, z, rfl, _m6, hc6⟩; have Hc6 := Lib.hid hc6; clear hc6)
      have flag := True.intro
      go_wp2_with first
        | (go_at_call 31; clear flag; refine Hc6.out.mono ?_; rintro e w7 ⟨rfl, h7⟩; have H7 := Lib.hid h7; have m7 := h7.rest; clear h7)
      have flag := True.intro
      go_wp2_with first
        | (go_at_call 19; clear flag; refine (read_pair hsi 0 nz (by decide) _ H7.out).mono ?_; rintro e w8 ⟨l, A1, d1, z2, rfl, m8, hll, hc8⟩; have Hc8 := Lib.hid hc8; have _m8 := Mod.drop (m := m8); clear hc8 m8)
      have flag := True.intro
      go_wp2_with first
        | (go_at_call 20; clear flag; refine Hc8.out.mono ?_; rintro e w9 ⟨A2, d2, rfl, h9⟩; have H9 := Lib.hid h9; have m9 := h9.mod; clear h9)
      have flag := True.intro
      go_wp2_with first
        | (go_at_call 21; clear flag; refine (sameBytes_spec A1 A2 l.length l.length d1 d2 l l _ w0 _ m9 inferInstance inferInstance (by omega) (by omega)).mono ?_; rw [decide_eq_true rfl]; rintro e w10 ⟨rfl, m10⟩)
      go_roundg (n - (i + 1))
      case measure => omega
      case rel => exact ⟨i + 1, hlt, rfl, by go_num, Both.less (X := rowA 5 1 (.slice A1 l.length d1) l.length (u8s l)) (Both.less (X := rowA 5 1 (.slice A2 l.length d2) l.length (u8s l)) (.mk' m10 hal.out))⟩
    · have hin : i = n := by omega
      have hii : ¬ (i : Int) < (n : Int) := by omega
      have HB := Lib.hid (HF.out _ hB)
      clear hB
      go_wp2_with fail
      go_ret
      exact ⟨rfl, HB.out⟩
end
end Go.Proofs.YtcakdaadbpimaaaGreatDoor
