/- A journal and the reference's journal beside it: Add, Sync, and what is done with their disks: contracts over the small separation logic; the conditions are in each theorem. -/
import Derived.Test.YtcakdaadbpimaaaGreatDoorRefJour
import Derived.Test.YtcakdaadbpimaaaGreatDoorPlayOps
namespace Go.Proofs.YtcakdaadbpimaaaGreatDoor
open Go.RowKit Go.Sl
/-- A disk that has no file of another name. -/
structure Only (name : ByteArray) (D : DiskSt) : Prop where
  now : ∀ x ∈ D.now, x.1 = name
  sure : ∀ x ∈ D.sure, x.1 = name
theorem Only.files {name : ByteArray} {D : DiskSt} (h : Only name D) (T : FileTab) : Only name { D with files := T } := ⟨h.now, h.sure⟩
theorem Only.empty {name : ByteArray} {D : DiskSt} (h : Only name D) (hg : mget D.now name = none) : D.now = [] := by
  cases hn : D.now with
  | nil => rfl
  | cons x l =>
    have hx := h.now x (by rw [hn]; exact List.mem_cons_self ..)
    rw [hn] at hg
    unfold mget at hg
    rw [List.find?_cons_of_pos (by simp [hx])] at hg
    cases hg
section
variable {p q j k : Nat} {D M : DiskSt} {F : Asn} {w0 : World} {name : ByteArray} {en : Nat} (hs : name.size ≤ 9223372036854775807) (hn : nameOk name = true)
/-- The journal and the reference's one beside it, on disks that are alike. -/
structure JBoth (p q j k : Nat) (name : ByteArray) (en : Nat) (D M : DiskSt) (F : Asn) (w0 w : World) : Prop where
  both : Both p q D M (jourA j p name en * (rjourA k q name en * F)) w0 w
  only : Only name D
theorem JBoth.rest {w : World} (h : JBoth p q j k name en D M F w0 w) : Mod w w0 F := Mod.drop (m := Mod.drop (m := h.both.rest))
theorem JBoth.j1 {w : World} (h : JBoth p q j k name en D M F w0 w) : Mod w w0 (diskA p D * (jourA j p name en * (refA q M * (rjourA k q name en * F)))) := Mod.to (m := h.both.mod) (by ac_rfl)
theorem JBoth.mk1 {w : World} (m : Mod w w0 (diskA p D * (jourA j p name en * (refA q M * (rjourA k q name en * F))))) (hb : ∃ φ, Beside φ D M) (ho : Only name D) : JBoth p q j k name en D M F w0 w := ⟨.mk' (Mod.to (m := m) (by ac_rfl)) hb, ho⟩
theorem JBoth.mk2 {w : World} (m : Mod w w0 (refA q M * (rjourA k q name en * (diskA p D * (jourA j p name en * F))))) (hb : ∃ φ, Beside φ D M) (ho : Only name D) : JBoth p q j k name en D M F w0 w := ⟨.mk' (Mod.to (m := m) (by ac_rfl)) hb, ho⟩
/-- One call of the journal (or of its disk), and the same one of the reference's: the same answer. -/
def JPair (f g : FuncId) (a b : Array Value) (p q j k : Nat) (name : ByteArray) (en : Nat) (D M : DiskSt) (F : Asn) (w0 : World) : Prop :=
  ∀ w, JBoth p q j k name en D M F w0 w → Calls Tryz.prog f a w fun e w' => ∃ z : Int, e = .returned (.int .i64 z) ∧ Mod w' w0 F ∧
    Calls Tryz.prog g b w' fun e2 w2 => e2 = .returned (.int .i64 z) ∧ ∃ D1 M1 en1, JBoth p q j k name en1 D1 M1 F w0 w2
include hs hn
theorem jadd_pair (A1 A2 : Option Addr) (n c1 c2 : Nat) (l : List UInt8) (hl : l.length = n) (r1 : Reads F A1 n (u8s l)) (r2 : Reads F A2 n (u8s l)) (h1 : n ≤ c1) (h2 : n ≤ c2) (hn6 : n ≤ 65536) :
    JPair 39 40 #[ptr j, .slice A1 n c1] #[ptr k, .slice A2 n c2] p q j k name en D M F w0 := by
  subst hl
  rintro w h
  obtain ⟨φ, hb⟩ := h.both.alike
  have hok := h.both.ok
  have ho := h.only
  have hM := hb.get name
  have m := h.j1
  cases hg : mget D.now name with
  | none =>
    rw [hg] at hM
    refine (add_none j p D name w w0 _ A1 c1 en _ m hs hn6 hn hg).mono ?_
    rintro e w1 ⟨rfl, m1⟩
    refine ⟨7, rfl, Mod.keep m1, (r6add_none k q M name w1 w0 (diskA p D * (jourA j p name en * F)) A2 c2 hs hn en _ (Mod.to (m := m1) (by ac_rfl)) hn6 hM).mono ?_⟩
    rintro e w2 ⟨rfl, m2⟩
    exact ⟨rfl, D, M, en, .mk2 m2 ⟨φ, hb⟩ ho⟩
  | some g =>
    rw [hg] at hM
    obtain ⟨f, hf⟩ := Option.isSome_iff_exists.1 (hok.now _ (mem_of_mget hg))
    have hf : fget D.files g = some f := hf
    have hfl : f.bytes.length ≤ 1048576 := hok.len _ (mem_of_fget _ _ _ hf)
    have hfM := hb.files _ _ hf
    by_cases he : f.bytes.length = en
    · subst he
      have hleft := hb.left hok
      by_cases hc : leftOf D < (writ f.bytes.length true l).length ∨ 1048576 < f.bytes.length + (writ f.bytes.length true l).length
      · refine (add_full j p D name w w0 _ A1 c1 l g f hs hn hg hf m (reads_lift inferInstance r1) h1 hn6 hfl hc).mono ?_
        rintro e w1 ⟨rfl, m1⟩
        refine ⟨6, rfl, Mod.keep m1, (r6add_full k q M name w1 w0 (diskA p D * (jourA j p name f.bytes.length * F)) A2 c2 l hs hn _ f hM hfM (Mod.to (m := m1) (by ac_rfl)) (reads_lift inferInstance r2) h2 hn6 hfl (by rw [hleft]; exact hc)).mono ?_⟩
        rintro e w2 ⟨rfl, m2⟩
        exact ⟨rfl, D, M, _, .mk2 m2 ⟨φ, hb⟩ ho⟩
      · refine (add_ok j p D name w w0 _ A1 c1 l g f hs hn hg hf m (reads_lift inferInstance r1) h1 hn6 (by omega) (by omega)).mono ?_
        rintro e w1 ⟨rfl, m1⟩
        refine ⟨0, rfl, Mod.keep m1, (r6add_ok k q M name w1 w0 (diskA p { D with files := fset D.files g ⟨f.bytes ++ writ f.bytes.length true l, f.sure⟩ } * (jourA j p name (f.bytes ++ writ f.bytes.length true l).length * F)) A2 c2 l hs hn _ f hM hfM (Mod.to (m := m1) (by ac_rfl)) (reads_lift inferInstance r2) h2 hn6 hfl (by rw [hleft]; omega) (by omega)).mono ?_⟩
        rintro e w2 ⟨rfl, m2⟩
        exact ⟨rfl, _, _, _, .mk2 m2 ⟨φ, hb.fset hf⟩ (ho.files _)⟩
    · refine (add_state j p D name w w0 _ A1 c1 g f hs hn hg hf en _ m hn6 he).mono ?_
      rintro e w1 ⟨rfl, m1⟩
      refine ⟨9, rfl, Mod.keep m1, (r6add_state k q M name w1 w0 (diskA p D * (jourA j p name en * F)) A2 c2 hs hn _ f hM hfM en _ (Mod.to (m := m1) (by ac_rfl)) hn6 he).mono ?_⟩
      rintro e w2 ⟨rfl, m2⟩
      exact ⟨rfl, D, M, en, .mk2 m2 ⟨φ, hb⟩ ho⟩
theorem jsync_pair : JPair 41 42 #[ptr j] #[ptr k] p q j k name en D M F w0 := by
  rintro w h
  obtain ⟨φ, hb⟩ := h.both.alike
  have hok := h.both.ok
  have ho := h.only
  have hM := hb.get name
  have m := h.j1
  cases hg : mget D.now name with
  | none =>
    rw [hg] at hM
    refine (jsync_none j p D name w w0 _ en m hs hn hg).mono ?_
    rintro e w1 ⟨rfl, m1⟩
    refine ⟨7, rfl, Mod.keep m1, (r6sync_none k q M name w1 w0 (diskA p D * (jourA j p name en * F)) hs hn en (Mod.to (m := m1) (by ac_rfl)) hM).mono ?_⟩
    rintro e w2 ⟨rfl, m2⟩
    exact ⟨rfl, D, M, en, .mk2 m2 ⟨φ, hb⟩ ho⟩
  | some g =>
    rw [hg] at hM
    obtain ⟨f, hf⟩ := Option.isSome_iff_exists.1 (hok.now _ (mem_of_mget hg))
    have hf : fget D.files g = some f := hf
    refine (jsync_some j p D name w w0 _ en m hs hn g f hg hf).mono ?_
    rintro e w1 ⟨rfl, m1⟩
    refine ⟨0, rfl, Mod.keep m1, (r6sync_some k q M name w1 w0 (diskA p { D with files := fset D.files g ⟨f.bytes, f.bytes.length⟩ } * (jourA j p name en * F)) hs hn en (Mod.to (m := m1) (by ac_rfl)) _ f hM (hb.files _ _ hf)).mono ?_⟩
    rintro e w2 ⟨rfl, m2⟩
    exact ⟨rfl, _, _, en, .mk2 m2 ⟨φ, hb.fset hf⟩ (ho.files _)⟩
end
end Go.Proofs.YtcakdaadbpimaaaGreatDoor
