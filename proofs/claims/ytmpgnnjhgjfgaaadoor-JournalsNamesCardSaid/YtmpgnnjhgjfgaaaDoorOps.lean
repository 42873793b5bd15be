/- Disks in general: how many bytes names' files have, behind each turn; each of the disk's functions that turn it, whatever it is asked: plain lemmas and weak contracts; the conditions are in each theorem. -/
import Derived.Test.YtmpgnnjhgjfgaaaDoorAlive5
namespace Go.Proofs.YtmpgnnjhgjfgaaaDoor
open Go.RowKit Go.Sl
theorem total_append (T : FileTab) : ∀ (L M : Dir), total T (L ++ M) = total T L + total T M
  | [], _ => by simp [total]
  | q :: L, M => by simp only [List.cons_append, total]; rw [total_append T L M]; omega
theorem total_sub (T : FileTab) {L M : Dir} (h : L.Sublist M) : total T L ≤ total T M := by
  induction h with
  | slnil => exact Nat.le_refl _
  | cons a _ ih => simp only [total]; omega
  | cons_cons a _ ih => simp only [total]; omega
theorem total_fset_not (T : FileTab) (g : Nat) (f' : FileSt) : ∀ (L : Dir), g ∉ L.map (·.2) → total (fset T g f') L = total T L
  | [], _ => rfl
  | q :: L, h => by
    simp only [List.map_cons, List.mem_cons, not_or] at h
    simp only [total]
    rw [fget_fset_other T g q.2 f' (fun e => h.1 e.symm), total_fset_not T g f' L h.2]
theorem total_fset (T : FileTab) (g : Nat) (f f' : FileSt) (hf : fget T g = some f) : ∀ (L : Dir) (s : ByteArray), (L.map (·.2)).Nodup → (s, g) ∈ L → total (fset T g f') L + f.bytes.length = total T L + f'.bytes.length
  | [], _, _, h => by cases h
  | q :: L, s, hn, h => by
    simp only [List.map_cons, List.nodup_cons] at hn
    simp only [total]
    rcases List.mem_cons.1 h with rfl | h
    · rw [total_fset_not T g f' L hn.1, fget_fset_same T g f f' hf, hf]
      simp only [Option.map_some, Option.getD_some]; omega
    · have hne : q.2 ≠ g := fun e => hn.1 (by rw [e]; exact List.mem_map_of_mem (f := (·.2)) h)
      have := total_fset T g f f' hf L s hn.2 h
      rw [fget_fset_other T g q.2 f' hne]; omega
theorem total_cons (T : FileTab) (g : Nat) (f : FileSt) : ∀ (L : Dir), g ∉ L.map (·.2) → total ((g, f) :: T) L = total T L
  | [], _ => rfl
  | q :: L, h => by
    simp only [List.map_cons, List.mem_cons, not_or] at h
    simp only [total]
    rw [total_cons T g f L h.2, show fget ((g, f) :: T) q.2 = fget T q.2 from by simp only [fget]; rw [if_neg h.1]]
theorem total_mput_le (T : FileTab) (s : ByteArray) (g : Nat) (L : Dir) : total T (mput L s g) ≤ total T L + ((fget T g).map (·.bytes.length)).getD 0 * (if L.any (fun p => decide (p.1 = s)) then (L.filter (fun p => decide (p.1 = s))).length else 1) := by
  unfold mput
  split
  · rename_i h
    clear h
    induction L with
    | nil => simp [total]
    | cons q L ih =>
      simp only [List.map_cons, total]
      by_cases hq : q.1 = s
      · simp only [hq, if_true, decide_true, List.filter_cons_of_pos, List.length_cons, Nat.mul_add, Nat.mul_one]; omega
      · simp only [hq, if_false]
        rw [List.filter_cons_of_neg (by simpa using hq)]; omega
  · rw [total_append]; simp [total]
theorem filter_one {L : Dir} (hk : (L.map (·.1)).Nodup) (s : ByteArray) : (L.filter (fun p => decide (p.1 = s))).length ≤ 1 := by
  induction L with
  | nil => simp
  | cons q L ih =>
    simp only [List.map_cons, List.nodup_cons] at hk
    by_cases hq : q.1 = s
    · have : L.filter (fun p => decide (p.1 = s)) = [] := List.filter_eq_nil_iff.2 fun p hp e => hk.1 (by rw [hq, ← of_decide_eq_true e]; exact List.mem_map_of_mem (f := (·.1)) hp)
      rw [List.filter_cons_of_pos (by simp [hq]), this]; simp
    · rw [List.filter_cons_of_neg (by simp [hq])]; exact ih hk.2
theorem total_mput (T : FileTab) (s : ByteArray) (g : Nat) {L : Dir} (hk : (L.map (·.1)).Nodup) : total T (mput L s g) ≤ total T L + ((fget T g).map (·.bytes.length)).getD 0 := by
  refine Nat.le_trans (total_mput_le T s g L) (Nat.add_le_add_left ?_ _)
  refine Nat.le_trans (Nat.mul_le_mul_left _ (m := 1) ?_) (by simp)
  split
  · exact filter_one hk s
  · exact Nat.le_refl _
theorem total_mdel (T : FileTab) (s : ByteArray) (g : Nat) : ∀ {L : Dir}, (L.map (·.1)).Nodup → mget L s = some g → total T (mdel L s) + ((fget T g).map (·.bytes.length)).getD 0 = total T L
  | [], _, h => by cases h
  | q :: L, hk, h => by
    simp only [List.map_cons, List.nodup_cons] at hk
    by_cases hq : q.1 = s
    · have e : mdel L s = L := by
        unfold mdel
        refine List.filter_eq_self.2 fun p hp => ?_
        have : p.1 ≠ s := fun e => hk.1 (by rw [hq, ← e]; exact List.mem_map_of_mem (f := (·.1)) hp)
        simp [this]
      have e2 : mdel (q :: L) s = L := by
        unfold mdel at e ⊢
        rw [List.filter_cons_of_neg (by simp [hq]), e]
      have e3 : q.2 = g := by
        unfold mget at h
        rw [List.find?_cons_of_pos (by simp [hq])] at h
        injection h
      rw [e2]; simp only [total]; rw [e3]; omega
    · have h' : mget L s = some g := by
        unfold mget at h ⊢
        rw [List.find?_cons_of_neg (by simp [hq])] at h
        exact h
      have := total_mdel T s g hk.2 h'
      have e2 : mdel (q :: L) s = q :: mdel L s := by unfold mdel; rw [List.filter_cons_of_pos (by simp [hq])]
      rw [e2]; simp only [total]; omega
def used (D : DiskSt) : Nat := total D.files D.now
theorem left_used (D : DiskSt) : leftOf D = D.size - used D := rfl
theorem used_put {D : DiskSt} (hok : DiskOk D) {name : ByteArray} {g : Nat} {f : FileSt} (hg : mget D.now name = some g) (hf : fget D.files g = some f) (f' : FileSt) : used { D with files := fset D.files g f' } + f.bytes.length = used D + f'.bytes.length :=
  total_fset D.files g f f' hf D.now name hok.inj (mem_of_mget hg)
theorem used_created {D : DiskSt} (hok : DiskOk D) {name : ByteArray} {g : Nat} (hg : mget D.now name = none) (hfr : fget D.files g = none) : used (created D name g) = used D := by
  have hnot : g ∉ D.now.map (·.2) := fun hm => by
    obtain ⟨q, hq, e⟩ := List.mem_map.1 hm
    have := hok.now q hq
    rw [e, hfr] at this; cases this
  unfold used created
  rw [mput_new hg, total_append, total_cons _ _ _ _ hnot]
  simp [total, fget]
theorem used_renamed {D : DiskSt} (hok : DiskOk D) {a b : ByteArray} {g : Nat} (hg : mget D.now a = some g) : used (renamed D a b g) ≤ used D := by
  have h1 := total_mput D.files b g (removed_ok hok a).keys
  have h2 := total_mdel D.files a g hok.keys hg
  unfold used renamed
  exact Nat.le_trans h1 (Nat.le_of_eq h2)
/-! ### Other files -/
theorem other_id {D : DiskSt} (hok : DiskOk D) {a b : ByteArray} {g h : Nat} (hab : a ≠ b) (hg : mget D.now a = some g) (hh : mget D.now b = some h) : h ≠ g := fun e => by
  subst e
  have h1 := mem_of_mget hg
  have h2 := mem_of_mget hh
  obtain ⟨i, hi, hie⟩ := List.mem_iff_getElem.1 h1
  obtain ⟨j, hj, hje⟩ := List.mem_iff_getElem.1 h2
  have hij : i = j := by
    have := List.getElem_inj (xs := D.now.map (·.2)) (h₀ := by simpa using hi) (h₁ := by simpa using hj) hok.inj
    simp only [List.getElem_map, hie, hje] at this
    exact this.1 trivial
  subst hij
  rw [hie] at hje
  exact hab (congrArg Prod.fst hje)
/-! ### Weak contracts -/
section
variable (p : Nat) (D : DiskSt) (name : ByteArray) (w w0 : World) (S F : Asn) (m : Mod w w0 S) (t : Take S (diskA p) D F) (hs : name.size ≤ 9223372036854775807)
theorem stays {w w0 : World} {S F : Asn} {p : Nat} {D : DiskSt} (t : Take S (diskA p) D F) (m : Mod w w0 S) : Mod w w0 (diskA p D * F) := by rw [← t.eq]; exact m
include m t hs
theorem create_any : Calls Tryd.prog 18 #[.pointer (some ⟨p, 0, none⟩), .string name] w fun e w' => ∃ r D', e = .returned (.int .i64 r) ∧ D'.size = D.size ∧ used D' ≤ used D ∧ Mod w' w0 (diskA p D' * F) := by
  have hok : DiskOk D := by obtain ⟨rn, rs, hok, _⟩ := disk_open m t; exact hok
  cases hn : nameOk name with
  | false => exact (create_arg p D name w w0 S F m t hs hn).mono fun e w' ⟨h1, h2⟩ => ⟨_, D, h1, rfl, Nat.le_refl _, stays t h2⟩
  | true =>
    cases hg : mget D.now name with
    | some g => exact (create_there p D name w w0 S F m t hs g hn hg).mono fun e w' ⟨h1, h2⟩ => ⟨_, D, h1, rfl, Nat.le_refl _, stays t h2⟩
    | none =>
      rcases Nat.lt_or_ge D.now.length 64 with h | h
      · exact (create_ok p D name w w0 S F m t hs hn hg h).mono fun e w' ⟨g, h1, h2, h3⟩ => ⟨_, created D name g, h1, rfl, Nat.le_of_eq (used_created hok hg h2), h3⟩
      · exact (create_full p D name w w0 S F m t hs hn hg (Nat.le_antisymm hok.many h)).mono fun e w' ⟨h1, h2⟩ => ⟨_, D, h1, rfl, Nat.le_refl _, stays t h2⟩
theorem remove_any : Calls Tryd.prog 20 #[.pointer (some ⟨p, 0, none⟩), .string name] w fun e w' => ∃ r D', e = .returned (.int .i64 r) ∧ D'.size = D.size ∧ used D' ≤ used D ∧ (nameOk name = true → mget D'.now name = none) ∧ Mod w' w0 (diskA p D' * F) := by
  cases hn : nameOk name with
  | false => exact (remove_arg p D name w w0 S F m t hs hn).mono fun e w' ⟨h1, h2⟩ => ⟨_, D, h1, rfl, Nat.le_refl _, (fun h => by cases h), stays t h2⟩
  | true =>
    cases hg : mget D.now name with
    | some g => exact (remove_ok p D name w w0 S F m t hs g hn hg).mono fun e w' ⟨h1, h2⟩ => ⟨_, { D with now := mdel D.now name }, h1, rfl, total_sub _ (mdel_sub _ _), (fun _ => by
        show mget (mdel D.now name) name = none
        refine mget_none_of fun hm => ?_
        obtain ⟨q, hq, hqe⟩ := List.mem_map.1 hm
        have := (List.mem_filter.1 hq).2
        simp [hqe] at this), h2⟩
    | none => exact (remove_none p D name w w0 S F m t hs hn hg).mono fun e w' ⟨h1, h2⟩ => ⟨_, D, h1, rfl, Nat.le_refl _, (fun _ => hg), stays t h2⟩
theorem rename_any (to : ByteArray) (hs2 : to.size ≤ 9223372036854775807) : Calls Tryd.prog 43 #[.pointer (some ⟨p, 0, none⟩), .string name, .string to] w fun e w' => ∃ r D', e = .returned (.int .i64 r) ∧ D'.size = D.size ∧ used D' ≤ used D ∧ Mod w' w0 (diskA p D' * F) := by
  have hok : DiskOk D := by obtain ⟨rn, rs, hok, _⟩ := disk_open m t; exact hok
  cases hn : (nameOk name && nameOk to) with
  | false => exact (rename_arg p D name w w0 S F m t hs to hs2 hn).mono fun e w' ⟨h1, h2⟩ => ⟨_, D, h1, rfl, Nat.le_refl _, stays t h2⟩
  | true =>
    cases hg : mget D.now name with
    | some g => exact (rename_ok p D name w w0 S F m t hs to hs2 g hn hg).mono fun e w' ⟨h1, h2⟩ => ⟨_, renamed D name to g, h1, rfl, used_renamed hok hg, h2⟩
    | none => exact (rename_none p D name w w0 S F m t hs to hs2 hn hg).mono fun e w' ⟨h1, h2⟩ => ⟨_, D, h1, rfl, Nat.le_refl _, stays t h2⟩
theorem append_any (A : Option Addr) (c : Nat) (b : List UInt8) [r : Reads F A b.length (u8s b)] (hb : b.length ≤ 9223372036854775807) : Calls Tryd.prog 19 #[.pointer (some ⟨p, 0, none⟩), .string name, .slice A b.length c] w fun e w' => ∃ r D', e = .returned (.int .i64 r) ∧ D'.size = D.size ∧ used D' ≤ used D + b.length ∧ Mod w' w0 (diskA p D' * F) := by
  have hok : DiskOk D := by obtain ⟨rn, rs, hok, _⟩ := disk_open m t; exact hok
  cases hn : nameOk name with
  | false => exact (append_arg p D name w w0 S F m t hs A b.length c hn).mono fun e w' ⟨h1, h2⟩ => ⟨_, D, h1, rfl, Nat.le_add_right _ _, stays t h2⟩
  | true =>
    cases hg : mget D.now name with
    | none => exact (append_none p D name w w0 S F m t hs A b.length c hn hg).mono fun e w' ⟨h1, h2⟩ => ⟨_, D, h1, rfl, Nat.le_add_right _ _, stays t h2⟩
    | some g =>
      obtain ⟨f, hf⟩ := Option.isSome_iff_exists.1 (hok.now _ (mem_of_mget hg))
      by_cases h : leftOf D < b.length ∨ 1048576 < f.bytes.length + b.length
      · exact (append_full p D name w w0 S F m t hs A b.length c g f hn hg hf hb h).mono fun e w' ⟨h1, h2⟩ => ⟨_, D, h1, rfl, Nat.le_add_right _ _, stays t h2⟩
      · have h1 : b.length ≤ leftOf D := by omega
        have h2 : f.bytes.length + b.length ≤ 1048576 := by omega
        refine (append_ok p D name w w0 S F m t hs A c b g f hn hg hf h1 h2).mono fun e w' ⟨h1, h2⟩ => ⟨_, { D with files := fset D.files g ⟨f.bytes ++ b, f.sure⟩ }, h1, rfl, ?_, h2⟩
        have := used_put hok hg hf ⟨f.bytes ++ b, f.sure⟩
        simp only [List.length_append] at this
        omega
theorem sync_any : Calls Tryd.prog 40 #[.pointer (some ⟨p, 0, none⟩), .string name] w fun e w' => ∃ r D', e = .returned (.int .i64 r) ∧ D'.size = D.size ∧ used D' ≤ used D ∧ Mod w' w0 (diskA p D' * F) := by
  have hok : DiskOk D := by obtain ⟨rn, rs, hok, _⟩ := disk_open m t; exact hok
  cases hn : nameOk name with
  | false => exact (sync_arg p D name w w0 S F m t hs hn).mono fun e w' ⟨h1, h2⟩ => ⟨_, D, h1, rfl, Nat.le_refl _, stays t h2⟩
  | true =>
    cases hg : mget D.now name with
    | none => exact (sync_none p D name w w0 S F m t hs hn hg).mono fun e w' ⟨h1, h2⟩ => ⟨_, D, h1, rfl, Nat.le_refl _, stays t h2⟩
    | some g =>
      obtain ⟨f, hf⟩ := Option.isSome_iff_exists.1 (hok.now _ (mem_of_mget hg))
      refine (sync_some p D name w w0 S F m t hs g f hn hg hf).mono fun e w' ⟨h1, h2⟩ => ⟨_, { D with files := fset D.files g ⟨f.bytes, f.bytes.length⟩ }, h1, rfl, ?_, h2⟩
      have := used_put hok hg hf ⟨f.bytes, f.bytes.length⟩
      simp only at this
      omega
end
end Go.Proofs.YtmpgnnjhgjfgaaaDoor
