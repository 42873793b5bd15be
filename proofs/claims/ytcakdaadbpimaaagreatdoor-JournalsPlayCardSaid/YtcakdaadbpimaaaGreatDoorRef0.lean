/- The reference's disk in the small separation logic, and the walks of its Name and find: contracts; the conditions are in each theorem. -/
import Derived.Test.YtcakdaadbpimaaaGreatDoorRefPlain
import Derived.Test.YtcakdaadbpimaaaGreatDoorBaseG
import Derived.Deep.LoopGhost
namespace Go.Proofs.YtcakdaadbpimaaaGreatDoor
open Go.RowKit Go.Sl
attribute [local go_sem] cell_of frozen_of
theorem all_drop (p : UInt8 → Bool) : ∀ l : List UInt8, (l.dropWhile p).isEmpty = l.all p
  | [] => rfl
  | a :: l => by
    cases h : p a with
    | true => rw [List.dropWhile_cons_of_pos h, all_drop p l, List.all_cons, h, Bool.true_and]
    | false => rw [List.dropWhile_cons_of_neg (by simp [h]), List.all_cons, h]; rfl
theorem all_dropped (p : UInt8 → Bool) : ∀ l : List UInt8, (l.dropWhile p).all p = l.all p
  | [] => rfl
  | a :: l => by
    cases h : p a with
    | true => rw [List.dropWhile_cons_of_pos h, all_dropped p l, List.all_cons, h, Bool.true_and]
    | false => rw [List.dropWhile_cons_of_neg (by simp [h])]
theorem trimS_empty (l cs : List UInt8) : (Lib.trimS l cs).isEmpty = l.all (cs.contains ·) := by
  unfold Lib.trimS Lib.trimLeftS Lib.trimRightS
  rw [all_drop, List.all_reverse, all_dropped, List.all_reverse]
/-- A byte that a name may have. -/
def mayB (b : UInt8) : Bool := mayBytes.contains b
theorem nameOk_all (s : ByteArray) : nameOk s = (decide (1 ≤ s.size) && decide (s.size ≤ 16) && s.data.toList.all mayB) := by
  rw [nameOk_eq, trimS_empty]
  congr 2
  have e : s.size = s.data.toList.length := Lib.size_eq s
  rw [e]
  cases s.data.toList <;> simp
theorem mayB_eq (b : UInt8) : mayB b = !((((decide (b.toNat < 97) || decide (122 < b.toNat)) && (decide (b.toNat < 48) || decide (57 < b.toNat))) && decide (b.toNat ≠ 45)) && decide (b.toNat ≠ 46)) := by
  have h : ∀ n : Fin 256, mayB (UInt8.ofNat n.val) = !((((decide (n.val < 97) || decide (122 < n.val)) && (decide (n.val < 48) || decide (57 < n.val))) && decide (n.val ≠ 45)) && decide (n.val ≠ 46)) := by decide +kernel
  have := h ⟨b.toNat, b.toNat_lt⟩
  simpa using this
theorem mayB_no (b : UInt8) (h : ((b.toNat < 97 ∨ 122 < b.toNat) ∧ (b.toNat < 48 ∨ 57 < b.toNat)) ∧ b.toNat ≠ 45 ∧ b.toNat ≠ 46) : mayB b = false := by
  rw [mayB_eq]
  simp only [Bool.not_eq_false', Bool.and_eq_true, Bool.or_eq_true, decide_eq_true_eq]
  exact ⟨⟨h.1, h.2.1⟩, h.2.2⟩
theorem mayB_yes (b : UInt8) (h : ¬ (((b.toNat < 97 ∨ 122 < b.toNat) ∧ (b.toNat < 48 ∨ 57 < b.toNat)) ∧ b.toNat ≠ 45 ∧ b.toNat ≠ 46)) : mayB b = true := by
  cases hb : mayB b with
  | true => rfl
  | false =>
    rw [mayB_eq] at hb
    simp only [Bool.not_eq_false', Bool.and_eq_true, Bool.or_eq_true, decide_eq_true_eq] at hb
    exact absurd ⟨hb.1.1, hb.1.2, hb.2⟩ h
theorem take_all {s : ByteArray} {i : Nat} (hi : i < s.size) (h : (s.data.toList.take i).all mayB = true) (hb : mayB s[i] = true) : (s.data.toList.take (i + 1)).all mayB = true := by
  have hl : i < s.data.toList.length := by rw [← Lib.size_eq]; exact hi
  rw [List.take_succ_eq_append_getElem hl, List.all_append, h]
  have e : s.data.toList[i] = s[i] := by rw [Array.getElem_toList]; rfl
  rw [List.all_cons, e, hb]; rfl
theorem not_all {s : ByteArray} {i : Nat} (hi : i < s.size) (hb : mayB s[i] = false) : nameOk s = false := by
  have hl : i < s.data.toList.length := by rw [← Lib.size_eq]; exact hi
  rw [nameOk_all]
  have e : s.data.toList[i] = s[i] := by rw [Array.getElem_toList]; rfl
  have : s.data.toList.all mayB = false := List.all_eq_false.2 ⟨s[i], by rw [← e]; exact List.getElem_mem hl, by rw [hb]; decide⟩
  rw [this, Bool.and_false]
set_option maxHeartbeats 4000000 in
theorem rName_spec (s : ByteArray) (w w0 : World) (S : Asn) (m : Mod w w0 S) (hs : s.size ≤ 9223372036854775807) : Calls Tryz.prog 51 #[.string s] w fun e w' => e = .returned (.bool (nameOk s)) ∧ Mod w' w0 S := by
  go_enter Tryz.func51, Tryz.ntmps51
  go_wp2_with fail
  go_loopg [3, 4] s.size (fun gk iv cv wr => ∃ i : Nat, i ≤ s.size ∧ gk = s.size - i ∧ iv = .int .i64 (i : Int) ∧ Hid ((s.data.toList.take i).all mayB = true) ∧ Mod wr w0 S)
  case atStart => exact ⟨0, Nat.zero_le _, rfl, rfl, rfl, m⟩
  case round =>
    obtain ⟨i, hi, hgk, rfl, Hall, m1⟩ := hrel
    by_cases hlt : i < s.size
    · have hii : (i : Int) < (s.size : Int) := by omega
      obtain ⟨b1, hb1⟩ : ∃ b, ((s[i].toNat : Int) != 45) = b := ⟨_, rfl⟩
      obtain ⟨b2, hb2⟩ : ∃ b, ((s[i].toNat : Int) != 46) = b := ⟨_, rfl⟩
      have hq1 : b1 = false → s[i].toNat = 45 := fun h => by subst h; have := (bne_eq_false_iff_eq).1 hb1; omega
      have hq2 : b1 = true → s[i].toNat ≠ 45 := fun h => by subst h; have := bne_iff_ne.1 hb1; omega
      have hq3 : b2 = false → s[i].toNat = 46 := fun h => by subst h; have := (bne_eq_false_iff_eq).1 hb2; omega
      have hq4 : b2 = true → s[i].toNat ≠ 46 := fun h => by subst h; have := bne_iff_ne.1 hb2; omega
      have Hq := Lib.hid (And.intro hq1 (And.intro hq2 (And.intro hq3 hq4)))
      clear hq1 hq2 hq3 hq4
      cases b1 <;> cases b2
      all_goals go_wp2_with fail
      all_goals have hq1 := Hq.out.1
      all_goals have hq2 := Hq.out.2.1
      all_goals have hq3 := Hq.out.2.2.1
      all_goals have hq4 := Hq.out.2.2.2
      all_goals simp only [forall_const, reduceCtorEq, false_implies] at hq1 hq2 hq3 hq4
      all_goals try
        (have hb := mayB_no s[i] (by omega)
         go_ret
         exact ⟨by rw [not_all hlt hb]; rfl, m1⟩)
      all_goals
        have hb := mayB_yes s[i] (by omega)
        go_roundg (s.size - (i + 1))
        case measure => omega
        case rel => exact ⟨i + 1, hlt, rfl, by go_num, take_all hlt Hall.out hb, m1⟩
    · obtain rfl : i = s.size := by omega
      have hall : s.data.toList.all mayB = true := by
        have := Hall.out
        rwa [List.take_of_length_le (by rw [← Lib.size_eq]; exact Nat.le_refl _)] at this
      have hne : nameOk s = (decide (1 ≤ s.size) && decide (s.size ≤ 16)) := by rw [nameOk_all, hall, Bool.and_true]
      have e16 : decide ((s.size : Int) ≤ 16) = decide (s.size ≤ 16) := by congr 1; exact propext ⟨fun h => by omega, fun h => by omega⟩
      have He := Lib.hid e16
      by_cases h1 : 1 ≤ s.size
      · have hi1 : (1 : Int) ≤ (s.size : Int) := by omega
        rw [decide_eq_true h1, Bool.true_and] at hne
        have Hne := Lib.hid hne
        clear hne hall e16 Hall
        go_wp2_with fail
        go_ret
        exact ⟨by rw [Hne.out, ← He.out]; rfl, m1⟩
      · have hi1 : ¬ (1 : Int) ≤ (s.size : Int) := by omega
        rw [decide_eq_false h1, Bool.false_and] at hne
        have Hne := Lib.hid hne
        clear hne hall e16 Hall
        go_wp2_with fail
        go_ret
        exact ⟨by rw [Hne.out]; rfl, m1⟩
/-- The cells of names that lead to files. -/
def nmCells (l : Dir) : List Value := l.flatMap fun q => [.string q.1, ptr q.2]
theorem nmCells_length (l : Dir) : (nmCells l).length = l.length * 2 := by
  induction l with
  | nil => rfl
  | cons q l ih => show ([_, _] ++ nmCells l).length = _; rw [List.length_append, ih]; simp; omega
theorem nm_at : ∀ (l : Dir) (i : Nat) (h : i < l.length), (nmCells l)[i * 2]? = some (.string l[i].1) ∧ (nmCells l)[i * 2 + 1]? = some (ptr l[i].2)
  | q :: l, 0, _ => ⟨rfl, rfl⟩
  | q :: l, i + 1, h => by
    have ih := nm_at l i (by simpa using h)
    have e1 : (i + 1) * 2 = i * 2 + 2 := by omega
    rw [e1]
    exact ih
def rfileA (g : Nat) (f : FileSt) : Asn := ex fun v : Value => Go.Sl.blk g (.cells #[v, .int .i64 (f.sure : Int)] 118 (0, 0)) * rowA 5 1 v f.bytes.length (u8s f.bytes)
def rfilesA : FileTab → Asn
  | [] => emp
  | p :: l => rfileA p.1 p.2 * rfilesA l
/-- The reference's disk at block p. -/
def refA (p : Nat) (M : DiskSt) : Asn :=
  ex fun r : Value × Value => pur (DiskOk M) * (Go.Sl.blk p (.cells #[.int .i64 (M.size : Int), r.1, r.2] 105 (0, 0)) * (rowA 122 2 r.1 M.now.length (nmCells M.now) * (rowA 122 2 r.2 M.sure.length (nmCells M.sure) * rfilesA M.files)))
theorem row_slice {w w0 : World} {e : TypeId} {size n : Nat} {v : Value} {xs : List Value} {F : Asn} (m : Mod w w0 (rowA e size v n xs * F)) : ∃ A c, v = .slice A n c ∧ n ≤ c := by
  rcases (owns_of_row m).2 with ⟨h1, h2⟩ | ⟨g, cap, cur, h1, _, _, h2, _⟩
  · exact ⟨none, 0, by rw [h1, h2], by omega⟩
  · exact ⟨_, _, h1, h2⟩
theorem ref_open {w w0 : World} {F : Asn} {p : Nat} {M : DiskSt} (m : Mod w w0 (refA p M * F)) : ∃ A c B d, DiskOk M ∧ M.now.length ≤ c ∧ Mod w w0 (Go.Sl.blk p (.cells #[.int .i64 (M.size : Int), .slice A M.now.length c, .slice B M.sure.length d] 105 (0, 0)) *
    (rowA 122 2 (.slice A M.now.length c) M.now.length (nmCells M.now) * (rowA 122 2 (.slice B M.sure.length d) M.sure.length (nmCells M.sure) * (rfilesA M.files * F)))) := by
  obtain ⟨⟨v1, v2⟩, m2⟩ := Mod.open (w := w) (w0 := w0) (m := m)
  rw [sep_assoc] at m2
  obtain ⟨h, m3⟩ := Mod.openP (w := w) (w0 := w0) (m := m2)
  simp only [sep_assoc] at m3
  obtain ⟨A, c, rfl, hc⟩ := row_slice (Mod.to (m := m3) (sep_left_comm _ _ _))
  have m4 : Mod w w0 (rowA 122 2 v2 M.sure.length (nmCells M.sure) * (Go.Sl.blk p (.cells #[.int .i64 (M.size : Int), .slice A M.now.length c, v2] 105 (0, 0)) * (rowA 122 2 (.slice A M.now.length c) M.now.length (nmCells M.now) * (rfilesA M.files * F)))) := Mod.to (m := m3) (by ac_rfl)
  obtain ⟨B, d, rfl, _⟩ := row_slice m4
  exact ⟨A, c, B, d, h, hc, m3⟩
theorem ref_shut {w w0 : World} {F : Asn} {p : Nat} {v1 v2 : Value} (M : DiskSt) (m : Mod w w0 (Go.Sl.blk p (.cells #[.int .i64 (M.size : Int), v1, v2] 105 (0, 0)) *
    (rowA 122 2 v1 M.now.length (nmCells M.now) * (rowA 122 2 v2 M.sure.length (nmCells M.sure) * (rfilesA M.files * F))))) (hok : DiskOk M) : Mod w w0 (refA p M * F) := by
  refine Mod.shut (G := fun r : Value × Value => pur (DiskOk M) * (Go.Sl.blk p (.cells #[.int .i64 (M.size : Int), r.1, r.2] 105 (0, 0)) * (rowA 122 2 r.1 M.now.length (nmCells M.now) * (rowA 122 2 r.2 M.sure.length (nmCells M.sure) * rfilesA M.files)))) (v1, v2) (m := ?_)
  rw [sep_assoc]
  exact Mod.shutP hok (m := Mod.to (m := m) (by simp only [sep_assoc]))
theorem rfiles_take : ∀ (T : FileTab) (g : Nat) (f : FileSt), fget T g = some f → rfilesA T = rfileA g f * rfilesA (fdel T g)
  | [], _, _, h => by cases h
  | p :: l, g, f, h => by
    unfold fget at h
    by_cases hp : p.1 = g
    · rw [if_pos hp] at h; injection h with h; subst h; subst hp; simp [rfilesA, fdel]
    · rw [if_neg hp] at h
      simp only [rfilesA, fdel, if_neg hp]
      rw [rfiles_take l g f h, sep_left_comm]
theorem rfiles_put : ∀ (T : FileTab) (g : Nat) (f f' : FileSt), fget T g = some f → rfilesA (fset T g f') = rfileA g f' * rfilesA (fdel T g)
  | [], _, _, _, h => by cases h
  | p :: l, g, f, f', h => by
    unfold fget at h
    by_cases hp : p.1 = g
    · simp [rfilesA, fdel, fset, hp]
    · rw [if_neg hp] at h
      simp only [rfilesA, fdel, fset, if_neg hp]
      rw [rfiles_put l g f f' h, sep_left_comm]
/-- One file laid open. -/
theorem rfile_open {w w0 : World} {F : Asn} {g : Nat} {f : FileSt} {T : FileTab} (m : Mod w w0 (rfilesA T * F)) (h : fget T g = some f) :
    ∃ A c, Mod w w0 (Go.Sl.blk g (.cells #[.slice A f.bytes.length c, .int .i64 (f.sure : Int)] 118 (0, 0)) * (rowA 5 1 (.slice A f.bytes.length c) f.bytes.length (u8s f.bytes) * (rfilesA (fdel T g) * F))) := by
  rw [rfiles_take T g f h, sep_assoc] at m
  obtain ⟨v, m2⟩ := Mod.open (w := w) (w0 := w0) (m := m)
  rw [sep_assoc] at m2
  obtain ⟨A, c, rfl, _⟩ := row_slice (Mod.to (m := m2) (sep_left_comm _ _ _))
  exact ⟨A, c, m2⟩
/-- .. and shut again, whatever has become of it. -/
theorem rfile_shut {w w0 : World} {F : Asn} {g : Nat} {v : Value} {T : FileTab} {f : FileSt} (f' : FileSt) (m : Mod w w0 (Go.Sl.blk g (.cells #[v, .int .i64 (f'.sure : Int)] 118 (0, 0)) * (rowA 5 1 v f'.bytes.length (u8s f'.bytes) * (rfilesA (fdel T g) * F)))) (h : fget T g = some f) : Mod w w0 (rfilesA (fset T g f') * F) := by
  rw [rfiles_put T g f f' h, sep_assoc]
  rw [← sep_assoc] at m
  exact Mod.shut v (m := m)
theorem rfiles_lt : ∀ (T : FileTab) (g : Nat) (f : FileSt) (h : Hp), (rfilesA T).says h → fget T g = some f → (h g).isSome = true := by
  intro T g f h hs hf
  rw [rfiles_take T g f hf] at hs
  obtain ⟨a, b, _, rfl, ⟨v, c, d, _, rfl, hc, _⟩, _⟩ := hs
  have hc : c = Hp.one g (.cells #[v, .int .i64 (f.sure : Int)] 118 (0, 0)) := hc
  simp [Hp.join, hc, Hp.one]
theorem rfresh {w w0 : World} {F : Asn} {T : FileTab} (m : Mod w w0 (rfilesA T * F)) : fget T w.heap.size = none := by
  cases h : fget T w.heap.size with
  | none => rfl
  | some f =>
    have hs := m.says
    rw [sep_assoc] at hs
    obtain ⟨a, b, _, h2, ha, _⟩ := hs
    have h3 := rfiles_lt T _ f a ha h
    obtain ⟨o, ho⟩ := Option.isSome_iff_exists.1 h3
    have : hp w w.heap.size = some o := by rw [h2]; simp [Hp.join, ho]
    simp [hp] at this
/-- The place of a name. -/
def findI (l : Dir) (s : ByteArray) : Int := match l.findIdx? (fun q => decide (q.1 = s)) with
  | some i => (i : Int)
  | none => -1
set_option maxHeartbeats 4000000 in
theorem rfind_spec (p : Nat) (sz v2 : Value) (A : Option Addr) (c : Nat) (l : Dir) (s : ByteArray) (w w0 : World) (S : Asn) (m : Mod w w0 S) [Has S p (.cells #[sz, .slice A l.length c, v2] 105 (0, 0))] (r : Reads S A (l.length * 2) (nmCells l)) (hl : l.length ≤ 64) :
    Calls Tryz.prog 52 #[ptr p, .string s] w fun e w' => e = .returned (.int .i64 (findI l s)) ∧ Mod w' w0 S := by
  go_enter Tryz.func52, Tryz.ntmps52
  go_wp2_with fail
  obtain ⟨n, hn⟩ : ∃ n, l.length = n := ⟨_, rfl⟩
  have Hn := Lib.hid hn
  have Hr := Lib.hid r
  rw [hn] at hl
  go_loopg [5] n (fun gk iv wr => ∃ i : Nat, i ≤ n ∧ gk = n - i ∧ iv = .int .i64 (i : Int) ∧ Hid (∀ j (h : j < l.length), j < i → l[j].1 ≠ s) ∧ Mod wr w0 S)
  case atStart => exact ⟨0, Nat.zero_le _, rfl, rfl, fun j _ h => by omega, m⟩
  case round =>
    obtain ⟨i, hi, hgk, rfl, Hno, m1⟩ := hrel
    by_cases hlt : i < n
    · have hii : (i : Int) < (n : Int) := by omega
      obtain ⟨⟨b, o, sp⟩, hA, hsp, hcl⟩ := reads_cell m1 Hr.out (by rw [Hn.out]; omega)
      simp only at hsp
      subst hsp hA
      have hil : i < l.length := by rw [Hn.out]; exact hlt
      obtain ⟨e0, _⟩ := nm_at l i hil
      have hx := hcl _ _ e0
      clear hcl e0
      by_cases hs : l[i].1 = s
      · have hnn : (l[i].1.toList == s.toList) = true := by rw [hs]; simp
        have HI : Hid (findI l s = (i : Int)) := by
          show findI l s = _
          have : l.findIdx? (fun q => decide (q.1 = s)) = some i := List.findIdx?_eq_some_iff_getElem.2 ⟨hil, by simp [hs], fun j hj => by have := Hno.out j (by omega) hj; simp [this]⟩
          unfold findI; rw [this]
        clear hs
        generalize l[i].1 = t at *
        go_wp2_with fail
        go_ret
        exact ⟨by rw [HI.out]; rfl, m1⟩
      · have hnn : (l[i].1.toList == s.toList) = false := beq_eq_false_iff_ne.2 fun e => hs (toList_inj e)
        have HN : Hid (∀ j (h : j < l.length), j < i + 1 → l[j].1 ≠ s) := fun j hj hji => by
          rcases Nat.lt_succ_iff_lt_or_eq.1 hji with h | h
          · exact Hno.out j hj h
          · subst h; exact hs
        clear hs
        generalize l[i].1 = t at *
        go_wp2_with fail
        go_roundg (n - (i + 1))
        case measure => omega
        case rel => exact ⟨i + 1, hlt, rfl, by go_num, HN, m1⟩
    · have hin : i = n := by omega
      have HI : Hid (findI l s = -1) := by
        show findI l s = _
        have : l.findIdx? (fun q => decide (q.1 = s)) = none := List.findIdx?_eq_none_iff.2 fun q hq => by
          obtain ⟨j, hj, rfl⟩ := List.getElem_of_mem hq
          have := Hno.out j hj (by rw [hin, ← Hn.out]; exact hj)
          simp [this]
        unfold findI; rw [this]
      have hii : ¬ (i : Int) < (n : Int) := by omega
      go_wp2_with fail
      go_ret
      exact ⟨by rw [HI.out]; rfl, m1⟩
end Go.Proofs.YtcakdaadbpimaaaGreatDoor
