/- Calls of the disk and the reference's disk, as FilesPlay makes them: contracts over the small separation logic; the conditions are in each theorem. -/
import Derived.Test.YtcakdaadbpimaaaGreatDoorBook4
namespace Go.Proofs.YtcakdaadbpimaaaGreatDoor
open Go.RowKit Go.Sl
section
variable {p q : Nat} {D M : DiskSt} {F : Asn} {w0 : World} {s : ByteArray}
theorem append_pair_n (hs : s.size ≤ 9223372036854775807) (A1 A2 : Option Addr) (n c1 c2 : Nat) (l : List UInt8) (hl : l.length = n) (r1 : Reads F A1 n (u8s l)) (r2 : Reads F A2 n (u8s l)) (hn : n ≤ 9223372036854775807) : Pair 17 18 #[ptr p, .string s, .slice A1 n c1] #[ptr q, .string s, .slice A2 n c2] p q D M F w0 := by
  subst hl
  exact append_pair hs A1 A2 c1 c2 l r1 r2 hn
theorem fail_pair_no (keep : Int) (b : Bool) (h0 : keep < 0) : ∀ w, Both p q D M F w0 w → Calls Tryz.prog 27 #[ptr p, .int .i64 keep, .bool b] w fun e w' => e = .returned (.tuple #[.pointer none, .int .i64 1]) ∧ Mod w' w0 F ∧
    Calls Tryz.prog 28 #[ptr q, .int .i64 keep, .bool b] w' fun e2 w2 => e2 = .returned (.tuple #[.pointer none, .int .i64 1]) ∧ Both p q D M F w0 w2 := by
  rintro w ⟨m, hok, φ, hb⟩
  refine (fail_arg p D w w0 _ _ m inferInstance keep b h0).mono ?_
  rintro e w1 ⟨rfl, m1⟩
  refine ⟨rfl, Mod.drop (m := Mod.drop (m := m1)), (rfail_arg q M keep b h0 w1 w0 (diskA p D * F) (Mod.to (m := m1) (sep_left_comm _ _ _))).mono ?_⟩
  rintro e w2 ⟨rfl, m2⟩
  exact ⟨rfl, .mk' (Mod.to (m := m2) (sep_left_comm _ _ _)) ⟨φ, hb⟩⟩
theorem fail_pair_yes (keep : Int) (b : Bool) (hk : keep ≤ 9223372036854775807) (h0 : ¬ keep < 0) : ∀ w, Both p q D M F w0 w → Calls Tryz.prog 27 #[ptr p, .int .i64 keep, .bool b] w fun e w' => ∃ p', e = .returned (.tuple #[ptr p', .int .i64 0]) ∧ Mod w' w0 F ∧
    Calls Tryz.prog 28 #[ptr q, .int .i64 keep, .bool b] w' fun e2 w2 => ∃ q' D' M', e2 = .returned (.tuple #[ptr q', .int .i64 0]) ∧ (∃ φ, Beside φ D M) ∧ DiskOk D ∧ Both p' q' D' M' (diskA p D * (refA q M * F)) w0 w2 := by
  rintro w ⟨m, hok, φ, hb⟩
  obtain ⟨k, rfl⟩ : ∃ k : Nat, keep = k := ⟨keep.toNat, by omega⟩
  refine (fail_ok p D w w0 _ _ m inferInstance k b (by omega)).mono ?_
  rintro e w1 ⟨p', L, rfl, hL, hLn, hLok, m1⟩
  refine ⟨p', rfl, Mod.drop (m := Mod.drop (m := Mod.drop (m := m1))), (rfail_ok q M k b (by omega) w1 w0 (diskA p' ⟨D.size, L.dir, L.dir, L.tab⟩ * (diskA p D * F)) (Mod.to (m := m1) (by ac_rfl))).mono ?_⟩
  rintro e w2 ⟨x, R, rfl, hR, hRn, m2⟩
  have hnl : (namesLeft M b).Perm (onVals φ (namesLeft D b)) := by
    unfold namesLeft
    cases b
    · exact hb.sure
    · exact hb.now
  have hin : ∀ y ∈ namesLeft D b, (fget D.files y.2).isSome = true := by
    unfold namesLeft
    cases b
    · exact hok.sure
    · exact hok.now
  have hsrt : Srt (namesLeft M b) := by
    unfold namesLeft
    cases b
    · exact hb.srtS
    · exact hb.srt
  have hkept : ((namesLeft D b).map fun y => (y.1, keptOf D k y.2)) = (onVals φ (namesLeft D b)).map fun y => (y.1, keptOf M k y.2) := by
    unfold onVals
    rw [List.map_map]
    refine List.map_congr_left fun y hy => ?_
    obtain ⟨f, hf⟩ := Option.isSome_iff_exists.1 (hin y hy)
    show (y.1, keptOf D k y.2) = (y.1, keptOf M k (φ y.2))
    unfold keptOf
    rw [hf, hb.files _ _ hf]
  have hperm : (L.map fun y => (y.1, y.2.2)).Perm (R.map fun y => (y.1, y.2.2)) := by
    rw [hR]
    refine hL.trans ?_
    rw [hkept]
    exact (hnl.map _).symm
  have hfs : Srt (R.map fun y => (y.1, y.2.1)) := by
    have e1 : (R.map fun y : ByteArray × Nat × FileSt => (y.1, y.2.1)).map (·.1) = (namesLeft M b).map (·.1) := by
      have := congrArg (fun l => l.map (·.1)) hR
      simp only [List.map_map] at this ⊢
      exact this
    have h2 : ((namesLeft M b).map (·.1)).Pairwise (fun x y => x.data.toList < y.data.toList) := List.pairwise_map.2 hsrt
    rw [← e1] at h2
    exact (List.pairwise_map (f := fun x : ByteArray × Nat => x.1) (R := fun x y : ByteArray => x.data.toList < y.data.toList)).1 h2
  obtain ⟨ψ, hψ⟩ := beside_left (n := D.size) hperm hLn hRn hfs
  have hsz := hb.size
  rw [hsz] at m2
  refine ⟨x, _, _, rfl, ⟨φ, hb⟩, hok, .mk' (Mod.to (m := m2) (by ac_rfl)) ⟨ψ, hψ⟩⟩
end
end Go.Proofs.YtcakdaadbpimaaaGreatDoor
