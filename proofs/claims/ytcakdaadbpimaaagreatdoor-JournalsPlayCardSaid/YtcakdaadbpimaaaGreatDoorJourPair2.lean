/- What is done with the disks of a journal and of the reference's journal beside it; Open of both: contracts over the small separation logic; the conditions are in each theorem. -/
import Derived.Test.YtcakdaadbpimaaaGreatDoorJourPair
import Derived.Test.YtcakdaadbpimaaaGreatDoorRefOpen
namespace Go.Proofs.YtcakdaadbpimaaaGreatDoor
open Go.RowKit Go.Sl
theorem Only.removed {name : ByteArray} {D : DiskSt} (h : Only name D) (s : ByteArray) : Only name { D with now := mdel D.now s } := ⟨fun x hx => h.now x ((mdel_sub _ _).subset hx), h.sure⟩
theorem Only.names {name : ByteArray} {D : DiskSt} (h : Only name D) : Only name { D with sure := D.now } := ⟨h.now, h.now⟩
theorem Only.made {name : ByteArray} {D : DiskSt} (h : Only name D) (g : Nat) (hg : mget D.now name = none) : Only name (created D name g) := by
  refine ⟨fun x hx => ?_, h.sure⟩
  have e : (created D name g).now = D.now ++ [(name, g)] := mput_new hg g
  rw [e, h.empty hg, List.nil_append, List.mem_singleton] at hx
  rw [hx]
/-- How much can be read out of bytes. -/
theorem readFrom_small {b : List UInt8} : ∀ (m p : Nat) (bgn : Bool) (rec : List UInt8) (last : Nat), b.length - p ≤ m → p ≤ b.length → (((readFrom b p bgn rec last).1.map List.length).sum + 7 * (readFrom b p bgn rec last).1.length ≤ rec.length + (b.length - p)) := by
  intro m
  induction m with
  | zero =>
    intro p bgn rec last hm hp
    cases hpt : Sl.partAt b (p + gapOf p) with
    | none => rw [readFrom_none hpt]; simp
    | some x => have := partAt_lt hpt; omega
  | succ m ih =>
    intro p bgn rec last hm hp
    cases hpt : Sl.partAt b (p + gapOf p) with
    | none => rw [readFrom_none hpt]; simp
    | some x =>
      have h1 := partAt_lt hpt
      have h2 := partAt_size hpt
      cases hk : fitKind bgn x.1 with
      | false => rw [readFrom_unfit hpt hk]; simp
      | true =>
        cases hg : goesOn x.1 with
        | true =>
          rw [readFrom_on hpt hk hg]
          have := ih x.2.2 true (rec ++ x.2.1) last (by omega) (by omega)
          rw [List.length_append] at this
          omega
        | false =>
          rw [readFrom_whole hpt hk hg]
          have := ih x.2.2 false [] x.2.2 (by omega) (by omega)
          simp only [List.map_cons, List.sum_cons, List.length_cons, List.length_append, List.length_nil] at this ⊢
          omega
theorem mem_len_sum {r : List UInt8} : ∀ {l : List (List UInt8)}, r ∈ l → r.length ≤ (l.map List.length).sum
  | [], h => by cases h
  | a :: l, h => by
    simp only [List.map_cons, List.sum_cons]
    rcases List.mem_cons.1 h with rfl | h
    · omega
    · have := mem_len_sum h; omega
theorem readAll_small (b : List UInt8) : (readAll b).1.length * 7 ≤ b.length ∧ ∀ r ∈ (readAll b).1, r.length ≤ b.length := by
  have h := readFrom_small (b := b) b.length 0 false [] 0 (by omega) (by omega)
  rw [List.length_nil] at h
  unfold readAll
  refine ⟨by omega, fun r hr => ?_⟩
  have := mem_len_sum hr
  omega
section
variable {p q j k : Nat} {D M : DiskSt} {F : Asn} {w0 : World} {name : ByteArray} {en : Nat} (hs : name.size ≤ 9223372036854775807) (hn : nameOk name = true)
theorem JBoth.disk {w : World} (m : Mod w w0 (diskA p D * (refA q M * (jourA j p name en * (rjourA k q name en * F))))) (hb : ∃ φ, Beside φ D M) (ho : Only name D) : JBoth p q j k name en D M F w0 w := ⟨.mk' m hb, ho⟩
include hs hn
theorem jappend_pair (A1 A2 : Option Addr) (n c1 c2 : Nat) (l : List UInt8) (hl : l.length = n) (r1 : Reads F A1 n (u8s l)) (r2 : Reads F A2 n (u8s l)) (hn6 : n ≤ 9223372036854775807) :
    JPair 17 18 #[ptr p, .string name, .slice A1 n c1] #[ptr q, .string name, .slice A2 n c2] p q j k name en D M F w0 := by
  subst hl
  rintro w h
  obtain ⟨φ, hb⟩ := h.both.alike
  have hok := h.both.ok
  have ho := h.only
  have hM := hb.get name
  have m := h.both.mod
  cases hg : mget D.now name with
  | none =>
    rw [hg] at hM
    refine (append_none p D name w w0 _ _ m inferInstance hs A1 _ c1 hn hg).mono ?_
    rintro e w1 ⟨rfl, m1⟩
    refine ⟨7, rfl, Mod.keep m1, (rappend_none q M name w1 w0 (diskA p D * (jourA j p name en * (rjourA k q name en * F))) (Mod.to (m := m1) (by ac_rfl)) hs A2 _ c2 hn hM).mono ?_⟩
    rintro e w2 ⟨rfl, m2⟩
    exact ⟨rfl, D, M, en, .disk (Mod.to (m := m2) (by ac_rfl)) ⟨φ, hb⟩ ho⟩
  | some g =>
    rw [hg] at hM
    obtain ⟨f, hf⟩ := Option.isSome_iff_exists.1 (hok.now _ (mem_of_mget hg))
    have hf : fget D.files g = some f := hf
    have hleft := hb.left hok
    by_cases hc : leftOf D < l.length ∨ 1048576 < f.bytes.length + l.length
    · refine (append_full p D name w w0 _ _ m inferInstance hs A1 _ c1 g f hn hg hf hn6 hc).mono ?_
      rintro e w1 ⟨rfl, m1⟩
      refine ⟨6, rfl, Mod.keep m1, (rappend_full q M name w1 w0 (diskA p D * (jourA j p name en * (rjourA k q name en * F))) (Mod.to (m := m1) (by ac_rfl)) hs A2 _ c2 _ f hn hM (hb.files _ _ hf) hn6 (by rw [hleft]; exact hc)).mono ?_⟩
      rintro e w2 ⟨rfl, m2⟩
      exact ⟨rfl, D, M, en, .disk (Mod.to (m := m2) (by ac_rfl)) ⟨φ, hb⟩ ho⟩
    · have h1 : l.length ≤ leftOf D := by omega
      have h2 : f.bytes.length + l.length ≤ 1048576 := by omega
      refine (append_ok p D name w w0 _ (emp * (refA q M * (jourA j p name en * (rjourA k q name en * F)))) m inferInstance hs A1 c1 l (r := reads_lift inferInstance r1) g f hn hg hf h1 h2).mono ?_
      rintro e w1 ⟨rfl, m1⟩
      refine ⟨0, rfl, Mod.keep m1, (rappend_ok q M name w1 w0 (diskA p { D with files := fset D.files g ⟨f.bytes ++ l, f.sure⟩ } * (jourA j p name en * (rjourA k q name en * F))) (Mod.keep m1) hs A2 c2 l (reads_lift inferInstance r2) _ f hn hM (hb.files _ _ hf) (by rw [hleft]; exact h1) h2).mono ?_⟩
      rintro e w2 ⟨rfl, m2⟩
      exact ⟨rfl, _, _, en, .disk (Mod.to (m := m2) (by ac_rfl)) ⟨φ, hb.fset hf⟩ (ho.files _)⟩
theorem jremove_pair : JPair 13 14 #[ptr p, .string name] #[ptr q, .string name] p q j k name en D M F w0 := by
  rintro w h
  obtain ⟨φ, hb⟩ := h.both.alike
  have ho := h.only
  have hM := hb.get name
  have m := h.both.mod
  cases hg : mget D.now name with
  | none =>
    rw [hg] at hM
    refine (remove_none p D name w w0 _ _ m inferInstance hs hn hg).mono ?_
    rintro e w1 ⟨rfl, m1⟩
    refine ⟨7, rfl, Mod.keep m1, (rremove_none q M name w1 w0 (diskA p D * (jourA j p name en * (rjourA k q name en * F))) (Mod.keep m1) hs hn hM).mono ?_⟩
    rintro e w2 ⟨rfl, m2⟩
    exact ⟨rfl, D, M, en, .disk (Mod.to (m := m2) (by ac_rfl)) ⟨φ, hb⟩ ho⟩
  | some g =>
    rw [hg] at hM
    refine (remove_ok p D name w w0 _ _ m inferInstance hs g hn hg).mono ?_
    rintro e w1 ⟨rfl, m1⟩
    refine ⟨0, rfl, Mod.keep m1, (rremove_ok q M name w1 w0 (diskA p { D with now := mdel D.now name } * (jourA j p name en * (rjourA k q name en * F))) (Mod.keep m1) hs _ hn hM).mono ?_⟩
    rintro e w2 ⟨rfl, m2⟩
    exact ⟨rfl, _, _, en, .disk (Mod.to (m := m2) (by ac_rfl)) ⟨φ, hb.removed name⟩ (ho.removed name)⟩
omit hs hn in
theorem jnames_pair : JPair 25 26 #[ptr p] #[ptr q] p q j k name en D M F w0 := by
  rintro w h
  obtain ⟨φ, hb⟩ := h.both.alike
  have ho := h.only
  have m := h.both.mod
  refine (names_spec p D w w0 _ _ m inferInstance).mono ?_
  rintro e w1 ⟨rfl, m1⟩
  refine ⟨0, rfl, Mod.keep m1, (rnames_spec q M w1 w0 (diskA p { D with sure := D.now } * (jourA j p name en * (rjourA k q name en * F))) (Mod.keep m1)).mono ?_⟩
  rintro e w2 ⟨rfl, m2⟩
  exact ⟨rfl, _, _, en, .disk (Mod.to (m := m2) (by ac_rfl)) ⟨φ, hb.names⟩ ho.names⟩
/-- What Open answers, of both. -/
def OpenPair (p q : Nat) (D : DiskSt) (name : ByteArray) (F : Asn) (w0 : World) (e : Ending) (w' : World) : Prop :=
  ∃ (j : Nat) (A : Option Addr) (n : Nat), e = .returned (.tuple #[ptr j, .slice A n n, .int .i64 0]) ∧ Mod w' w0 F ∧ n ≤ 150000 ∧ (mget D.now name = none → n = 0) ∧
    Calls Tryz.prog 38 #[ptr q, .string name] w' fun e2 w2 => ∃ (k : Nat) (B : Option Addr) (c : Nat) (D1 M1 : DiskSt) (en : Nat) (rs : List (List UInt8)) (R1 R2 : Asn), e2 = .returned (.tuple #[ptr k, .slice B n c, .int .i64 0]) ∧
      rs.length = n ∧ (∀ r ∈ rs, r.length ≤ 1048576) ∧ RecsOwn R1 A rs ∧ ReadsRecs R2 B n rs ∧ JBoth p q j k name en D1 M1 (R1 * (R2 * F)) w0 w2
theorem jopen_pair (ho : Only name D) : ∀ w, Both p q D M F w0 w → Calls Tryz.prog 37 #[ptr p, .string name] w (OpenPair p q D name F w0) := by
  rintro w ⟨m, hok, φ, hb⟩
  have hM := hb.get name
  cases hg : mget D.now name with
  | some g =>
    rw [hg] at hM
    obtain ⟨f, hf⟩ := Option.isSome_iff_exists.1 (hok.now _ (mem_of_mget hg))
    have hf : fget D.files g = some f := hf
    have hfl : f.bytes.length ≤ 1048576 := hok.len _ (mem_of_fget _ _ _ hf)
    have hsm := readAll_small f.bytes
    refine (jopen_own p D name w w0 _ m hs g f hn hg hf hfl).mono ?_
    rintro e w1 ⟨j, A1, R1, rfl, hr1, m1⟩
    refine ⟨j, A1, _, rfl, Mod.keep m1, by omega, (fun h0 => by rw [hg] at h0; cases h0), (r6open_there q M name w1 w0 (diskA p D * (jourA j p name (readAll f.bytes).2 * (R1 * F))) (Mod.to (m := m1) (by ac_rfl)) hs _ f hn hM (hb.files _ _ hf) hfl).mono ?_⟩
    rintro e w2 ⟨k, B, c, R2, rfl, hr2, m2⟩
    exact ⟨k, B, c, D, M, _, _, R1, R2, rfl, rfl, fun r hr => Nat.le_trans (hsm.2 r hr) hfl, hr1, hr2, .disk (Mod.to (m := m2) (by ac_rfl)) ⟨φ, hb⟩ ho⟩
  | none =>
    rw [hg] at hM
    have hD := ho.empty hg
    have hlen : D.now.length < 64 := by rw [hD]; simp
    refine (jopen_fresh p D name w w0 _ m hs hn hg hlen).mono ?_
    rintro e w1 ⟨g, hgf, j, A1, R1, rfl, hr1, m1⟩
    refine ⟨j, A1, _, rfl, Mod.keep m1, by simp, (fun _ => rfl), (r6open_new q M name w1 w0 (diskA p (created D name g) * (jourA j p name 0 * (R1 * F))) (Mod.to (m := m1) (by ac_rfl)) hs hn hM (by rw [hb.len]; exact hlen)).mono ?_⟩
    rintro e w2 ⟨g2, hgf2, k, B, c, R2, rfl, hr2, m2⟩
    exact ⟨k, B, c, _, _, 0, [], R1, R2, rfl, rfl, (fun r hr => by cases hr), hr1, hr2, .disk (Mod.to (m := m2) (by ac_rfl)) ⟨_, hb.created hok hg hgf hgf2⟩ (ho.made g hg)⟩
end
section
variable {p q : Nat} {D M : DiskSt} {F : Asn} {w0 : World}
theorem fail_pair_only {name : ByteArray} (ho : Only name D) (keep : Int) (b : Bool) (hk : keep ≤ 9223372036854775807) (h0 : ¬ keep < 0) : ∀ w, Both p q D M F w0 w → Calls Tryz.prog 27 #[ptr p, .int .i64 keep, .bool b] w fun e w' => ∃ p', e = .returned (.tuple #[ptr p', .int .i64 0]) ∧ Mod w' w0 F ∧
    Calls Tryz.prog 28 #[ptr q, .int .i64 keep, .bool b] w' fun e2 w2 => ∃ q' D' M', e2 = .returned (.tuple #[ptr q', .int .i64 0]) ∧ Only name D' ∧ Both p' q' D' M' F w0 w2 := by
  rintro w ⟨m, hok, φ, hb⟩
  obtain ⟨k, rfl⟩ : ∃ k : Nat, keep = k := ⟨keep.toNat, by omega⟩
  refine (fail_ok p D w w0 _ _ m inferInstance k b (by omega)).mono ?_
  rintro e w1 ⟨p', L, rfl, hL, hLn, hLok, m1⟩
  refine ⟨p', rfl, Mod.drop (m := Mod.drop (m := Mod.drop (m := m1))), (rfail_ok q M k b (by omega) w1 w0 (diskA p' ⟨D.size, L.dir, L.dir, L.tab⟩ * (diskA p D * F)) (Mod.to (m := m1) (by ac_rfl))).mono ?_⟩
  rintro e w2 ⟨x, R, rfl, hR, hRn, m2⟩
  have hnl : (namesLeft M b).Perm (onVals φ (namesLeft D b)) := by
    unfold namesLeft
    cases b
    · exact hb.sure
    · exact hb.now
  have hin : ∀ y ∈ namesLeft D b, (fget D.files y.2).isSome = true := by
    unfold namesLeft
    cases b
    · exact hok.sure
    · exact hok.now
  have hsrt : Srt (namesLeft M b) := by
    unfold namesLeft
    cases b
    · exact hb.srtS
    · exact hb.srt
  have hkept : ((namesLeft D b).map fun y => (y.1, keptOf D k y.2)) = (onVals φ (namesLeft D b)).map fun y => (y.1, keptOf M k y.2) := by
    unfold onVals
    rw [List.map_map]
    refine List.map_congr_left fun y hy => ?_
    obtain ⟨f, hf⟩ := Option.isSome_iff_exists.1 (hin y hy)
    show (y.1, keptOf D k y.2) = (y.1, keptOf M k (φ y.2))
    unfold keptOf
    rw [hf, hb.files _ _ hf]
  have hperm : (L.map fun y => (y.1, y.2.2)).Perm (R.map fun y => (y.1, y.2.2)) := by
    rw [hR]
    refine hL.trans ?_
    rw [hkept]
    exact (hnl.map _).symm
  have hfs : Srt (R.map fun y => (y.1, y.2.1)) := by
    have e1 : (R.map fun y : ByteArray × Nat × FileSt => (y.1, y.2.1)).map (·.1) = (namesLeft M b).map (·.1) := by
      have := congrArg (fun l => l.map (·.1)) hR
      simp only [List.map_map] at this ⊢
      exact this
    have h2 : ((namesLeft M b).map (·.1)).Pairwise (fun x y => x.data.toList < y.data.toList) := List.pairwise_map.2 hsrt
    rw [← e1] at h2
    exact (List.pairwise_map (f := fun x : ByteArray × Nat => x.1) (R := fun x y : ByteArray => x.data.toList < y.data.toList)).1 h2
  have hnm : ∀ y ∈ namesLeft D b, y.1 = name := by
    unfold namesLeft
    cases b
    · exact ho.sure
    · exact ho.now
  have hdir : ∀ y ∈ L.dir, y.1 = name := fun y hy => by
    obtain ⟨z, hz, rfl⟩ := List.mem_map.1 (List.mem_reverse.1 hy)
    have h1 := hL.subset (List.mem_map.2 ⟨z, hz, rfl⟩)
    obtain ⟨u, hu, e⟩ := List.mem_map.1 h1
    have e1 : u.1 = z.1 := (Prod.mk.inj e).1
    show z.1 = name
    rw [← e1]
    exact hnm u hu
  have honly : Only name ⟨D.size, L.dir, L.dir, L.tab⟩ := ⟨hdir, hdir⟩
  obtain ⟨ψ, hψ⟩ := beside_left (n := D.size) hperm hLn hRn hfs
  have hsz := hb.size
  rw [hsz] at m2
  refine ⟨x, ⟨D.size, L.dir, L.dir, L.tab⟩, ⟨D.size, R.fwd, R.fwd, R.tab⟩, rfl, honly, .mk' (Mod.keep m2) ⟨ψ, hψ⟩⟩
end
end Go.Proofs.YtcakdaadbpimaaaGreatDoor
