/- A call of the disk and the same one of the reference's disk beside it: contracts over the small separation logic; the conditions are in each theorem. -/
import Derived.Test.YtcakdaadbpimaaaGreatDoorRef5
namespace Go.Proofs.YtcakdaadbpimaaaGreatDoor
open Go.RowKit Go.Sl
/-- The two disks in the heap, alike. -/
structure Both (p q : Nat) (D M : DiskSt) (F : Asn) (w0 w : World) : Prop where
  mod : Mod w w0 (diskA p D * (refA q M * F))
  ok : DiskOk D
  alike : ∃ φ, Beside φ D M
theorem disk_ok {p : Nat} {D : DiskSt} {F : Asn} {w w0 : World} (m : Mod w w0 (diskA p D * F)) : DiskOk D := by
  obtain ⟨_, _, hok, _⟩ := disk_open m (inferInstance : Take (diskA p D * F) (diskA p) D _)
  exact hok
theorem Both.mk' {p q : Nat} {D M : DiskSt} {F : Asn} {w0 w : World} (m : Mod w w0 (diskA p D * (refA q M * F))) (h : ∃ φ, Beside φ D M) : Both p q D M F w0 w := ⟨m, disk_ok m, h⟩
theorem Both.ref {p q : Nat} {D M : DiskSt} {F : Asn} {w0 w : World} (h : Both p q D M F w0 w) : Mod w w0 (refA q M * (diskA p D * F)) := Mod.to (m := h.mod) (sep_left_comm _ _ _)
/-- The disk has turned into D1, the reference's is to follow; z: the answer. -/
structure Half (p q : Nat) (D1 M : DiskSt) (F : Asn) (w0 w : World) : Prop where
  mod : Mod w w0 (diskA p D1 * (refA q M * F))
theorem Half.ref {p q : Nat} {D M : DiskSt} {F : Asn} {w0 w : World} (h : Half p q D M F w0 w) : Mod w w0 (refA q M * (diskA p D * F)) := Mod.to (m := h.mod) (sep_left_comm _ _ _)
section
variable {p q : Nat} {D M : DiskSt} {F : Asn} {w0 : World} {s : ByteArray} (hs : s.size ≤ 9223372036854775807)
/-- What Create answers, and what the reference's is to answer behind it. -/
def Pair (f g : FuncId) (a b : Array Value) (p q : Nat) (D M : DiskSt) (F : Asn) (w0 : World) : Prop :=
  ∀ w, Both p q D M F w0 w → Calls Tryz.prog f a w fun e w' => ∃ z : Int, e = .returned (.int .i64 z) ∧ Mod w' w0 F ∧
    Calls Tryz.prog g b w' fun e2 w2 => e2 = .returned (.int .i64 z) ∧ ∃ D1 M1, Both p q D1 M1 F w0 w2
include hs
theorem create_pair : Pair 11 12 #[ptr p, .string s] #[ptr q, .string s] p q D M F w0 := by
  rintro w ⟨m, hok, φ, hb⟩
  have hM := hb.get s
  cases hn : nameOk s with
  | false =>
    refine (create_arg p D s w w0 _ _ m inferInstance hs hn).mono ?_
    rintro e w1 ⟨rfl, m1⟩
    try simp only [emp_sep] at m1
    refine ⟨1, rfl, Mod.drop (m := Mod.drop (m := m1)), (rcreate_arg q M s w1 w0 (diskA p D * F) (Mod.to (m := m1) (sep_left_comm _ _ _)) hs hn).mono ?_⟩
    rintro e w2 ⟨rfl, m2⟩
    exact ⟨rfl, D, M, .mk' (Mod.to (m := m2) (sep_left_comm _ _ _)) ⟨φ, hb⟩⟩
  | true =>
    cases hg : mget D.now s with
    | some g =>
      rw [hg] at hM
      refine (create_there p D s w w0 _ _ m inferInstance hs g hn hg).mono ?_
      rintro e w1 ⟨rfl, m1⟩
      try simp only [emp_sep] at m1
      refine ⟨8, rfl, Mod.drop (m := Mod.drop (m := m1)), (rcreate_there q M s w1 w0 (diskA p D * F) (Mod.to (m := m1) (sep_left_comm _ _ _)) hs _ hn hM).mono ?_⟩
      rintro e w2 ⟨rfl, m2⟩
      exact ⟨rfl, D, M, .mk' (Mod.to (m := m2) (sep_left_comm _ _ _)) ⟨φ, hb⟩⟩
    | none =>
      rw [hg] at hM
      by_cases hfull : D.now.length = 64
      · refine (create_full p D s w w0 _ _ m inferInstance hs hn hg hfull).mono ?_
        rintro e w1 ⟨rfl, m1⟩
        try simp only [emp_sep] at m1
        refine ⟨6, rfl, Mod.drop (m := Mod.drop (m := m1)), (rcreate_full q M s w1 w0 (diskA p D * F) (Mod.to (m := m1) (sep_left_comm _ _ _)) hs hn hM (by rw [hb.len]; exact hfull)).mono ?_⟩
        rintro e w2 ⟨rfl, m2⟩
        exact ⟨rfl, D, M, .mk' (Mod.to (m := m2) (sep_left_comm _ _ _)) ⟨φ, hb⟩⟩
      · have hroom : D.now.length < 64 := by have := hok.many; omega
        refine (create_ok p D s w w0 _ _ m inferInstance hs hn hg hroom).mono ?_
        rintro e w1 ⟨g, rfl, hfr, m1⟩
        try simp only [emp_sep] at m1
        refine ⟨0, rfl, Mod.drop (m := Mod.drop (m := m1)), (rcreate_ok q M s w1 w0 (diskA p (created D s g) * F) (Mod.to (m := m1) (sep_left_comm _ _ _)) hs hn hM (by rw [hb.len]; exact hroom)).mono ?_⟩
        rintro e w2 ⟨g', rfl, hfr', m2⟩
        exact ⟨rfl, _, _, .mk' (Mod.to (m := m2) (sep_left_comm _ _ _)) ⟨_, hb.created hok hg hfr hfr'⟩⟩
theorem remove_pair : Pair 13 14 #[ptr p, .string s] #[ptr q, .string s] p q D M F w0 := by
  rintro w ⟨m, hok, φ, hb⟩
  have hM := hb.get s
  cases hn : nameOk s with
  | false =>
    refine (remove_arg p D s w w0 _ _ m inferInstance hs hn).mono ?_
    rintro e w1 ⟨rfl, m1⟩
    try simp only [emp_sep] at m1
    refine ⟨1, rfl, Mod.drop (m := Mod.drop (m := m1)), (rremove_arg q M s w1 w0 (diskA p D * F) (Mod.to (m := m1) (sep_left_comm _ _ _)) hs hn).mono ?_⟩
    rintro e w2 ⟨rfl, m2⟩
    exact ⟨rfl, D, M, .mk' (Mod.to (m := m2) (sep_left_comm _ _ _)) ⟨φ, hb⟩⟩
  | true =>
    cases hg : mget D.now s with
    | some g =>
      rw [hg] at hM
      refine (remove_ok p D s w w0 _ _ m inferInstance hs g hn hg).mono ?_
      rintro e w1 ⟨rfl, m1⟩
      try simp only [emp_sep] at m1
      refine ⟨0, rfl, Mod.drop (m := Mod.drop (m := m1)), (rremove_ok q M s w1 w0 (diskA p { D with now := mdel D.now s } * F) (Mod.to (m := m1) (sep_left_comm _ _ _)) hs _ hn hM).mono ?_⟩
      rintro e w2 ⟨rfl, m2⟩
      exact ⟨rfl, _, _, .mk' (Mod.to (m := m2) (sep_left_comm _ _ _)) ⟨φ, hb.removed s⟩⟩
    | none =>
      rw [hg] at hM
      refine (remove_none p D s w w0 _ _ m inferInstance hs hn hg).mono ?_
      rintro e w1 ⟨rfl, m1⟩
      try simp only [emp_sep] at m1
      refine ⟨7, rfl, Mod.drop (m := Mod.drop (m := m1)), (rremove_none q M s w1 w0 (diskA p D * F) (Mod.to (m := m1) (sep_left_comm _ _ _)) hs hn hM).mono ?_⟩
      rintro e w2 ⟨rfl, m2⟩
      exact ⟨rfl, D, M, .mk' (Mod.to (m := m2) (sep_left_comm _ _ _)) ⟨φ, hb⟩⟩
theorem rename_pair {to : ByteArray} (ht : to.size ≤ 9223372036854775807) : Pair 15 16 #[ptr p, .string s, .string to] #[ptr q, .string s, .string to] p q D M F w0 := by
  rintro w ⟨m, hok, φ, hb⟩
  have hM := hb.get s
  cases hn : (nameOk s && nameOk to) with
  | false =>
    refine (rename_arg p D s w w0 _ _ m inferInstance hs to ht hn).mono ?_
    rintro e w1 ⟨rfl, m1⟩
    try simp only [emp_sep] at m1
    refine ⟨1, rfl, Mod.drop (m := Mod.drop (m := m1)), (rrename_arg q M s w1 w0 (diskA p D * F) (Mod.to (m := m1) (sep_left_comm _ _ _)) hs to ht hn).mono ?_⟩
    rintro e w2 ⟨rfl, m2⟩
    exact ⟨rfl, D, M, .mk' (Mod.to (m := m2) (sep_left_comm _ _ _)) ⟨φ, hb⟩⟩
  | true =>
    cases hg : mget D.now s with
    | some g =>
      rw [hg] at hM
      refine (rename_ok p D s w w0 _ _ m inferInstance hs to ht g hn hg).mono ?_
      rintro e w1 ⟨rfl, m1⟩
      try simp only [emp_sep] at m1
      refine ⟨0, rfl, Mod.drop (m := Mod.drop (m := m1)), (rrename_ok q M s w1 w0 (diskA p (renamed D s to g) * F) (Mod.to (m := m1) (sep_left_comm _ _ _)) hs to ht _ hn hM).mono ?_⟩
      rintro e w2 ⟨rfl, m2⟩
      exact ⟨rfl, _, _, .mk' (Mod.to (m := m2) (sep_left_comm _ _ _)) ⟨φ, hb.renamed hok hg⟩⟩
    | none =>
      rw [hg] at hM
      refine (rename_none p D s w w0 _ _ m inferInstance hs to ht hn hg).mono ?_
      rintro e w1 ⟨rfl, m1⟩
      try simp only [emp_sep] at m1
      refine ⟨7, rfl, Mod.drop (m := Mod.drop (m := m1)), (rrename_none q M s w1 w0 (diskA p D * F) (Mod.to (m := m1) (sep_left_comm _ _ _)) hs to ht hn hM).mono ?_⟩
      rintro e w2 ⟨rfl, m2⟩
      exact ⟨rfl, D, M, .mk' (Mod.to (m := m2) (sep_left_comm _ _ _)) ⟨φ, hb⟩⟩
theorem sync_pair : Pair 23 24 #[ptr p, .string s] #[ptr q, .string s] p q D M F w0 := by
  rintro w ⟨m, hok, φ, hb⟩
  have hM := hb.get s
  cases hn : nameOk s with
  | false =>
    refine (sync_arg p D s w w0 _ _ m inferInstance hs hn).mono ?_
    rintro e w1 ⟨rfl, m1⟩
    try simp only [emp_sep] at m1
    refine ⟨1, rfl, Mod.drop (m := Mod.drop (m := m1)), (rsync_arg q M s w1 w0 (diskA p D * F) (Mod.to (m := m1) (sep_left_comm _ _ _)) hs hn).mono ?_⟩
    rintro e w2 ⟨rfl, m2⟩
    exact ⟨rfl, D, M, .mk' (Mod.to (m := m2) (sep_left_comm _ _ _)) ⟨φ, hb⟩⟩
  | true =>
    cases hg : mget D.now s with
    | some g =>
      rw [hg] at hM
      obtain ⟨f, hf⟩ := Option.isSome_iff_exists.1 (hok.now _ (mem_of_mget hg))
      have hf : fget D.files g = some f := hf
      refine (sync_some p D s w w0 _ _ m inferInstance hs g f hn hg hf).mono ?_
      rintro e w1 ⟨rfl, m1⟩
      try simp only [emp_sep] at m1
      refine ⟨0, rfl, Mod.drop (m := Mod.drop (m := m1)), (rsync_some q M s w1 w0 (diskA p { D with files := fset D.files g ⟨f.bytes, f.bytes.length⟩ } * F) (Mod.to (m := m1) (sep_left_comm _ _ _)) hs _ f hn hM (hb.files _ _ hf)).mono ?_⟩
      rintro e w2 ⟨rfl, m2⟩
      exact ⟨rfl, _, _, .mk' (Mod.to (m := m2) (sep_left_comm _ _ _)) ⟨φ, hb.fset hf⟩⟩
    | none =>
      rw [hg] at hM
      refine (sync_none p D s w w0 _ _ m inferInstance hs hn hg).mono ?_
      rintro e w1 ⟨rfl, m1⟩
      try simp only [emp_sep] at m1
      refine ⟨7, rfl, Mod.drop (m := Mod.drop (m := m1)), (rsync_none q M s w1 w0 (diskA p D * F) (Mod.to (m := m1) (sep_left_comm _ _ _)) hs hn hM).mono ?_⟩
      rintro e w2 ⟨rfl, m2⟩
      exact ⟨rfl, D, M, .mk' (Mod.to (m := m2) (sep_left_comm _ _ _)) ⟨φ, hb⟩⟩
/-- The same bytes, read from two slices, appended. -/
theorem append_pair (A1 A2 : Option Addr) (c1 c2 : Nat) (l : List UInt8) (r1 : Reads F A1 l.length (u8s l)) (r2 : Reads F A2 l.length (u8s l)) (hl : l.length ≤ 9223372036854775807) : Pair 17 18 #[ptr p, .string s, .slice A1 l.length c1] #[ptr q, .string s, .slice A2 l.length c2] p q D M F w0 := by
  rintro w ⟨m, hok, φ, hb⟩
  have hM := hb.get s
  cases hn : nameOk s with
  | false =>
    refine (append_arg p D s w w0 _ _ m inferInstance hs A1 _ c1 hn).mono ?_
    rintro e w1 ⟨rfl, m1⟩
    try simp only [emp_sep] at m1
    refine ⟨1, rfl, Mod.drop (m := Mod.drop (m := m1)), (rappend_arg q M s w1 w0 (diskA p D * F) (Mod.to (m := m1) (sep_left_comm _ _ _)) hs A2 _ c2 hn).mono ?_⟩
    rintro e w2 ⟨rfl, m2⟩
    exact ⟨rfl, D, M, .mk' (Mod.to (m := m2) (sep_left_comm _ _ _)) ⟨φ, hb⟩⟩
  | true =>
    cases hg : mget D.now s with
    | some g =>
      rw [hg] at hM
      obtain ⟨f, hf⟩ := Option.isSome_iff_exists.1 (hok.now _ (mem_of_mget hg))
      have hf : fget D.files g = some f := hf
      have hleft := hb.left hok
      by_cases hc : leftOf D < l.length ∨ 1048576 < f.bytes.length + l.length
      · refine (append_full p D s w w0 _ _ m inferInstance hs A1 _ c1 g f hn hg hf hl hc).mono ?_
        rintro e w1 ⟨rfl, m1⟩
        try simp only [emp_sep] at m1
        refine ⟨6, rfl, Mod.drop (m := Mod.drop (m := m1)), (rappend_full q M s w1 w0 (diskA p D * F) (Mod.to (m := m1) (sep_left_comm _ _ _)) hs A2 _ c2 _ f hn hM (hb.files _ _ hf) hl (by rw [hleft]; exact hc)).mono ?_⟩
        rintro e w2 ⟨rfl, m2⟩
        exact ⟨rfl, D, M, .mk' (Mod.to (m := m2) (sep_left_comm _ _ _)) ⟨φ, hb⟩⟩
      · have h1 : l.length ≤ leftOf D := by omega
        have h2 : f.bytes.length + l.length ≤ 1048576 := by omega
        refine (append_ok p D s w w0 _ (emp * (refA q M * F)) m inferInstance hs A1 c1 l (r := reads_lift inferInstance r1) g f hn hg hf h1 h2).mono ?_
        rintro e w1 ⟨rfl, m1⟩
        try simp only [emp_sep] at m1
        refine ⟨0, rfl, Mod.drop (m := Mod.drop (m := m1)), (rappend_ok q M s w1 w0 (diskA p { D with files := fset D.files g ⟨f.bytes ++ l, f.sure⟩ } * F) (Mod.to (m := m1) (sep_left_comm _ _ _)) hs A2 c2 l (reads_lift inferInstance r2) _ f hn hM (hb.files _ _ hf) (by rw [hleft]; exact h1) h2).mono ?_⟩
        rintro e w2 ⟨rfl, m2⟩
        exact ⟨rfl, _, _, .mk' (Mod.to (m := m2) (sep_left_comm _ _ _)) ⟨φ, hb.fset hf⟩⟩
    | none =>
      rw [hg] at hM
      refine (append_none p D s w w0 _ _ m inferInstance hs A1 _ c1 hn hg).mono ?_
      rintro e w1 ⟨rfl, m1⟩
      try simp only [emp_sep] at m1
      refine ⟨7, rfl, Mod.drop (m := Mod.drop (m := m1)), (rappend_none q M s w1 w0 (diskA p D * F) (Mod.to (m := m1) (sep_left_comm _ _ _)) hs A2 _ c2 hn hM).mono ?_⟩
      rintro e w2 ⟨rfl, m2⟩
      exact ⟨rfl, D, M, .mk' (Mod.to (m := m2) (sep_left_comm _ _ _)) ⟨φ, hb⟩⟩
omit hs in
theorem names_pair' : Pair 25 26 #[ptr p] #[ptr q] p q D M F w0 := by
  rintro w ⟨m, hok, φ, hb⟩
  refine (names_spec p D w w0 _ _ m inferInstance).mono ?_
  rintro e w1 ⟨rfl, m1⟩
  try simp only [emp_sep] at m1
  refine ⟨0, rfl, Mod.drop (m := Mod.drop (m := m1)), (rnames_spec q M w1 w0 (diskA p { D with sure := D.now } * F) (Mod.to (m := m1) (sep_left_comm _ _ _))).mono ?_⟩
  rintro e w2 ⟨rfl, m2⟩
  exact ⟨rfl, _, _, .mk' (Mod.to (m := m2) (sep_left_comm _ _ _)) ⟨φ, hb.names⟩⟩
/-- What Size answers. -/
theorem size_pair : ∀ w, Both p q D M F w0 w → Calls Tryz.prog 30 #[ptr p, .string s] w fun e w' => ∃ n z : Int, e = .returned (.tuple #[.int .i64 n, .int .i64 z]) ∧ Mod w' w0 F ∧
    Calls Tryz.prog 31 #[ptr q, .string s] w' fun e2 w2 => e2 = .returned (.tuple #[.int .i64 n, .int .i64 z]) ∧ Both p q D M F w0 w2 := by
  rintro w ⟨m, hok, φ, hb⟩
  have hM := hb.get s
  cases hn : nameOk s with
  | false =>
    refine (size_arg p D s w w0 _ _ m inferInstance hs hn).mono ?_
    rintro e w1 ⟨rfl, m1⟩
    try simp only [emp_sep] at m1
    refine ⟨0, 1, rfl, Mod.drop (m := Mod.drop (m := m1)), (rsize_arg q M s w1 w0 (diskA p D * F) (Mod.to (m := m1) (sep_left_comm _ _ _)) hs hn).mono ?_⟩
    rintro e w2 ⟨rfl, m2⟩
    exact ⟨rfl, .mk' (Mod.to (m := m2) (sep_left_comm _ _ _)) ⟨φ, hb⟩⟩
  | true =>
    cases hg : mget D.now s with
    | some g =>
      rw [hg] at hM
      obtain ⟨f, hf⟩ := Option.isSome_iff_exists.1 (hok.now _ (mem_of_mget hg))
      have hf : fget D.files g = some f := hf
      refine (size_some p D s g f w w0 _ _ m inferInstance hs hn hg hf).mono ?_
      rintro e w1 ⟨rfl, m1⟩
      try simp only [emp_sep] at m1
      refine ⟨_, 0, rfl, Mod.drop (m := Mod.drop (m := m1)), (rsize_some q M s w1 w0 (diskA p D * F) (Mod.to (m := m1) (sep_left_comm _ _ _)) hs _ f hn hM (hb.files _ _ hf)).mono ?_⟩
      rintro e w2 ⟨rfl, m2⟩
      exact ⟨rfl, .mk' (Mod.to (m := m2) (sep_left_comm _ _ _)) ⟨φ, hb⟩⟩
    | none =>
      rw [hg] at hM
      refine (size_none p D s w w0 _ _ m inferInstance hs hn hg).mono ?_
      rintro e w1 ⟨rfl, m1⟩
      try simp only [emp_sep] at m1
      refine ⟨0, 7, rfl, Mod.drop (m := Mod.drop (m := m1)), (rsize_none q M s w1 w0 (diskA p D * F) (Mod.to (m := m1) (sep_left_comm _ _ _)) hs hn hM).mono ?_⟩
      rintro e w2 ⟨rfl, m2⟩
      exact ⟨rfl, .mk' (Mod.to (m := m2) (sep_left_comm _ _ _)) ⟨φ, hb⟩⟩
/-- What Read answers. -/
def ReadPair (p q : Nat) (D M : DiskSt) (s : ByteArray) (i n : Int) (F : Asn) (w0 : World) (e : Ending) (w' : World) : Prop :=
  ∃ (l : List UInt8) (A : Option Addr) (c : Nat) (z : Int), e = .returned (.tuple #[.slice A l.length c, .int .i64 z]) ∧ Mod w' w0 (rowA 5 1 (.slice A l.length c) l.length (u8s l) * F) ∧ l.length ≤ 1048576 ∧
    Calls Tryz.prog 20 #[ptr q, .string s, .int .i64 i, .int .i64 n] w' fun e2 w2 => ∃ (A2 : Option Addr) (c2 : Nat), e2 = .returned (.tuple #[.slice A2 l.length c2, .int .i64 z]) ∧ Both p q D M (rowA 5 1 (.slice A2 l.length c2) l.length (u8s l) * (rowA 5 1 (.slice A l.length c) l.length (u8s l) * F)) w0 w2
theorem read_pair (i n : Int) (hi : i ≤ 9223372036854775807) : ∀ w, Both p q D M F w0 w → Calls Tryz.prog 19 #[ptr p, .string s, .int .i64 i, .int .i64 n] w (ReadPair p q D M s i n F w0) := by
  rintro w ⟨m, hok, φ, hb⟩
  have hM := hb.get s
  have err : ∀ (w1 : World) (z : Int), Mod w1 w0 (diskA p D * (refA q M * F)) → (∀ u, Mod u w0 (refA q M * (diskA p D * (rowA 5 1 (.slice none 0 0) 0 [] * F))) → Calls Tryz.prog 20 #[ptr q, .string s, .int .i64 i, .int .i64 n] u fun e2 w2 => e2 = .returned (.tuple #[.slice none 0 0, .int .i64 z]) ∧ Mod w2 w0 (refA q M * (diskA p D * (rowA 5 1 (.slice none 0 0) 0 [] * F)))) → ReadPair p q D M s i n F w0 (.returned (.tuple #[.slice none 0 0, .int .i64 z])) w1 := by
    intro w1 z m1 h
    have m2 := row_none_n (e := 5) (size := 1) m1
    refine ⟨[], none, 0, z, rfl, Mod.drop (A := diskA p D * refA q M) (m := Mod.to (m := m2) (by show _ = _ * (rowA 5 1 (.slice none 0 0) 0 [] * F); ac_rfl)), Nat.zero_le _, (h w1 (Mod.to (m := m2) (by ac_rfl))).mono ?_⟩
    rintro e w2 ⟨rfl, m3⟩
    exact ⟨none, 0, rfl, .mk' (Mod.to (m := row_none_n (e := 5) (size := 1) m3) (by show _ = _ * (_ * (rowA 5 1 (.slice none 0 0) 0 [] * (rowA 5 1 (.slice none 0 0) 0 [] * F))); ac_rfl)) ⟨φ, hb⟩⟩
  cases hn : ((decide (0 ≤ i) && decide (0 ≤ n)) && nameOk s) with
  | false =>
    refine (read_arg p D s w w0 _ _ m inferInstance hs i n hn).mono ?_
    rintro e w1 ⟨rfl, m1⟩
    exact err w1 1 m1 fun u mu => rread_arg q M s u w0 _ mu hs i n hn
  | true =>
    rw [Bool.and_eq_true, Bool.and_eq_true] at hn
    obtain ⟨⟨h1, h2⟩, hn⟩ := hn
    have h1 := of_decide_eq_true h1
    have h2 := of_decide_eq_true h2
    obtain ⟨i0, rfl⟩ : ∃ k : Nat, i = k := ⟨i.toNat, by omega⟩
    obtain ⟨n0, rfl⟩ : ∃ k : Nat, n = k := ⟨n.toNat, by omega⟩
    cases hg : mget D.now s with
    | none =>
      rw [hg] at hM
      refine (read_none p D s w w0 _ _ m inferInstance hs i0 n0 hn hg).mono ?_
      rintro e w1 ⟨rfl, m1⟩
      exact err w1 7 m1 fun u mu => rread_none q M s u w0 _ mu hs i0 n0 hn hM
    | some g =>
      rw [hg] at hM
      obtain ⟨f, hf⟩ := Option.isSome_iff_exists.1 (hok.now _ (mem_of_mget hg))
      have hf : fget D.files g = some f := hf
      by_cases hsh : f.bytes.length < i0 + n0
      · refine (read_short p D s w w0 _ _ m inferInstance hs i0 n0 g f hn hg hf hsh (by omega)).mono ?_
        rintro e w1 ⟨rfl, m1⟩
        exact err w1 5 m1 fun u mu => rread_short q M s u w0 _ mu hs i0 n0 _ f hn hM (hb.files _ _ hf) hsh (by omega)
      · have hl : i0 + n0 ≤ f.bytes.length := by omega
        have hle : f.bytes.length ≤ 1048576 := hok.len _ (mem_of_fget _ _ _ hf)
        have e1 : ((f.bytes.drop i0).take n0).length = n0 := by rw [List.length_take, List.length_drop]; omega
        refine (read_ok p D s w w0 _ _ m inferInstance hs i0 n0 g f hn hg hf hl).mono ?_
        rintro e w1 ⟨A1, c1, rfl, m1⟩
        refine ⟨(f.bytes.drop i0).take n0, A1, c1, 0, by rw [e1], by rw [e1]; exact Mod.drop (A := diskA p D * refA q M) (m := Mod.to (m := m1) (by ac_rfl)), by rw [e1]; omega, (rread_ok q M s w1 w0 (diskA p D * (rowA 5 1 (.slice A1 n0 c1) n0 (u8s ((f.bytes.drop i0).take n0)) * F)) (Mod.to (m := m1) (by ac_rfl)) hs i0 n0 _ f hn hM (hb.files _ _ hf) hl).mono ?_⟩
        rintro e w2 ⟨A2, c2, rfl, m2⟩
        rw [e1]
        exact ⟨A2, c2, rfl, .mk' (Mod.to (m := m2) (by ac_rfl)) ⟨φ, hb⟩⟩
omit hs in
theorem left_pair' : ∀ w, Both p q D M F w0 w → Calls Tryz.prog 32 #[ptr p] w fun e w' => ∃ n : Int, e = .returned (.int .i64 n) ∧ Mod w' w0 F ∧ Calls Tryz.prog 33 #[ptr q] w' fun e2 w2 => e2 = .returned (.int .i64 n) ∧ Both p q D M F w0 w2 := by
  rintro w ⟨m, hok, φ, hb⟩
  refine (left_spec p D w w0 _ _ m inferInstance).mono ?_
  rintro e w1 ⟨rfl, m1⟩
  refine ⟨_, rfl, Mod.drop (m := Mod.drop (m := m1)), (rleft_spec q M w1 w0 (diskA p D * F) (Mod.to (m := m1) (sep_left_comm _ _ _))).mono ?_⟩
  rintro e w2 ⟨rfl, m2⟩
  exact ⟨by rw [hb.left hok], .mk' (Mod.to (m := m2) (sep_left_comm _ _ _)) ⟨φ, hb⟩⟩
omit hs in
/-- What Fail answers: none, or a disk that is alike what the reference's leaves. -/
theorem fail_pair (keep : Int) (b : Bool) (hk : keep ≤ 9223372036854775807) : ∀ w, Both p q D M F w0 w → Calls Tryz.prog 27 #[ptr p, .int .i64 keep, .bool b] w fun e w' => Mod w' w0 F ∧
    ((e = .returned (.tuple #[.pointer none, .int .i64 1]) ∧ Calls Tryz.prog 28 #[ptr q, .int .i64 keep, .bool b] w' fun e2 w2 => e2 = .returned (.tuple #[.pointer none, .int .i64 1]) ∧ Both p q D M F w0 w2) ∨
     (∃ p', e = .returned (.tuple #[ptr p', .int .i64 0]) ∧ Calls Tryz.prog 28 #[ptr q, .int .i64 keep, .bool b] w' fun e2 w2 => ∃ q' D' M', e2 = .returned (.tuple #[ptr q', .int .i64 0]) ∧ (∃ φ, Beside φ D M) ∧ DiskOk D ∧ Both p' q' D' M' (diskA p D * (refA q M * F)) w0 w2)) := by
  rintro w ⟨m, hok, φ, hb⟩
  by_cases h0 : keep < 0
  · refine (fail_arg p D w w0 _ _ m inferInstance keep b h0).mono ?_
    rintro e w1 ⟨rfl, m1⟩
    refine ⟨Mod.drop (m := Mod.drop (m := m1)), .inl ⟨rfl, (rfail_arg q M keep b h0 w1 w0 (diskA p D * F) (Mod.to (m := m1) (sep_left_comm _ _ _))).mono ?_⟩⟩
    rintro e w2 ⟨rfl, m2⟩
    exact ⟨rfl, .mk' (Mod.to (m := m2) (sep_left_comm _ _ _)) ⟨φ, hb⟩⟩
  · obtain ⟨k, rfl⟩ : ∃ k : Nat, keep = k := ⟨keep.toNat, by omega⟩
    refine (fail_ok p D w w0 _ _ m inferInstance k b (by omega)).mono ?_
    rintro e w1 ⟨p', L, rfl, hL, hLn, hLok, m1⟩
    refine ⟨Mod.drop (m := Mod.drop (m := Mod.drop (m := m1))), .inr ⟨p', rfl, (rfail_ok q M k b (by omega) w1 w0 (diskA p' ⟨D.size, L.dir, L.dir, L.tab⟩ * (diskA p D * F)) (Mod.to (m := m1) (by ac_rfl))).mono ?_⟩⟩
    rintro e w2 ⟨x, R, rfl, hR, hRn, m2⟩
    have hnl : (namesLeft M b).Perm (onVals φ (namesLeft D b)) := by
      unfold namesLeft
      cases b
      · exact hb.sure
      · exact hb.now
    have hin : ∀ y ∈ namesLeft D b, (fget D.files y.2).isSome = true := by
      unfold namesLeft
      cases b
      · exact hok.sure
      · exact hok.now
    have hsrt : Srt (namesLeft M b) := by
      unfold namesLeft
      cases b
      · exact hb.srtS
      · exact hb.srt
    have hkept : ((namesLeft D b).map fun y => (y.1, keptOf D k y.2)) = (onVals φ (namesLeft D b)).map fun y => (y.1, keptOf M k y.2) := by
      unfold onVals
      rw [List.map_map]
      refine List.map_congr_left fun y hy => ?_
      obtain ⟨f, hf⟩ := Option.isSome_iff_exists.1 (hin y hy)
      show (y.1, keptOf D k y.2) = (y.1, keptOf M k (φ y.2))
      unfold keptOf
      rw [hf, hb.files _ _ hf]
    have hperm : (L.map fun y => (y.1, y.2.2)).Perm (R.map fun y => (y.1, y.2.2)) := by
      rw [hR]
      refine hL.trans ?_
      rw [hkept]
      exact (hnl.map _).symm
    have hfs : Srt (R.map fun y => (y.1, y.2.1)) := by
      have e1 : (R.map fun y : ByteArray × Nat × FileSt => (y.1, y.2.1)).map (·.1) = (namesLeft M b).map (·.1) := by
        have := congrArg (fun l => l.map (·.1)) hR
        simp only [List.map_map] at this ⊢
        exact this
      have h2 : ((namesLeft M b).map (·.1)).Pairwise (fun x y => x.data.toList < y.data.toList) := List.pairwise_map.2 hsrt
      rw [← e1] at h2
      exact (List.pairwise_map (f := fun x : ByteArray × Nat => x.1) (R := fun x y : ByteArray => x.data.toList < y.data.toList)).1 h2
    obtain ⟨ψ, hψ⟩ := beside_left (n := D.size) hperm hLn hRn hfs
    have hsz := hb.size
    rw [hsz] at m2
    refine ⟨x, _, _, rfl, ⟨φ, hb⟩, hok, .mk' (Mod.to (m := m2) (by ac_rfl)) ⟨ψ, hψ⟩⟩
end
end Go.Proofs.YtcakdaadbpimaaaGreatDoor
