/- The reference's disk in plain lists, and a disk beside it: definitions and plain lemmas. -/
import Derived.Test.YtcakdaadbpimaaaGreatDoorNamesG
namespace Go.Proofs.YtcakdaadbpimaaaGreatDoor
open Go Go.Sl
/-- Names, rising. -/
def Srt (l : Dir) : Prop := l.Pairwise fun a b => a.1.data.toList < b.1.data.toList
/-- A name that leads to a file, at its place. -/
def leadL (s : ByteArray) (f : Nat) : Dir → Dir
  | [] => [(s, f)]
  | p :: l => if p.1.data.toList < s.data.toList then p :: leadL s f l else (s, f) :: p :: l
theorem leadL_at (s : ByteArray) (f : Nat) : ∀ (l : Dir) (k : Nat) (_ : k ≤ l.length), (∀ i (h : i < l.length), i < k → l[i].1.data.toList < s.data.toList) → (∀ h : k < l.length, ¬ l[k].1.data.toList < s.data.toList) → leadL s f l = l.take k ++ (s, f) :: l.drop k
  | [], k, hk, _, _ => by simp at hk; subst hk; rfl
  | p :: l, 0, _, _, h => by have := h (by simp); simp only [List.getElem_cons_zero] at this; simp [leadL, this]
  | p :: l, k + 1, hk, h1, h2 => by
    have h0 := h1 0 (by simp) (by omega)
    simp only [List.getElem_cons_zero] at h0
    have ih := leadL_at s f l k (by simpa using hk) (fun i hi hik => by have := h1 (i + 1) (by simpa using hi) (by omega); simpa using this) (fun hh => by have := h2 (by simpa using hh); simpa using this)
    simp [leadL, h0, ih]
theorem leadL_perm (s : ByteArray) (f : Nat) : ∀ l : Dir, (leadL s f l).Perm ((s, f) :: l)
  | [] => List.Perm.refl _
  | p :: l => by
    unfold leadL
    split
    · exact (List.Perm.cons p (leadL_perm s f l)).trans (List.Perm.swap _ _ _)
    · exact List.Perm.refl _
theorem list_inj {a b : ByteArray} (h : a.data.toList = b.data.toList) : a = b := by
  cases a; cases b; congr; exact Array.toList_inj.1 h
theorem leadL_srt {s : ByteArray} {f : Nat} : ∀ {l : Dir}, Srt l → (∀ q ∈ l, q.1 ≠ s) → Srt (leadL s f l)
  | [], _, _ => by simp [leadL, Srt]
  | p :: l, h, hn => by
    have h' := List.pairwise_cons.1 h
    unfold leadL
    split
    · rename_i hp
      refine List.pairwise_cons.2 ⟨fun q hq => ?_, leadL_srt h'.2 fun q hq => hn q (List.mem_cons_of_mem _ hq)⟩
      rcases List.mem_cons.1 ((leadL_perm s f l).subset hq) with rfl | hq
      · exact hp
      · exact h'.1 q hq
    · rename_i hp
      have hps : s.data.toList < p.1.data.toList := by
        rcases List.le_iff_lt_or_eq.1 (List.not_lt.1 hp) with h1 | h1
        · exact h1
        · exact absurd (list_inj h1.symm) (hn p (List.mem_cons_self ..))
      refine List.pairwise_cons.2 ⟨fun q hq => ?_, h⟩
      rcases List.mem_cons.1 hq with rfl | hq
      · exact hps
      · exact List.lt_trans hps (h'.1 q hq)
theorem Srt.nodup {l : Dir} (h : Srt l) : (l.map (·.1)).Nodup := by
  refine List.pairwise_map.2 (h.imp fun {a b} hab e => ?_)
  rw [e] at hab
  exact List.lt_irrefl _ hab
theorem Srt.sub {l l' : Dir} (h : Srt l) (s : l'.Sublist l) : Srt l' := List.Pairwise.sublist s h
theorem Srt.names {l l' : Dir} (h : Srt l) (p : (l.map (·.1)).Perm (l'.map (·.1))) : (l'.map (·.1.data.toList)).mergeSort leB = l.map (·.1.data.toList) := by
  have p2 : (l'.map (·.1.data.toList)).Perm (l.map (·.1.data.toList)) := by
    have := (p.map (fun s : ByteArray => s.data.toList)).symm
    rw [List.map_map, List.map_map] at this
    exact this
  rw [mergeSort_of_perm p2]
  refine List.mergeSort_of_pairwise (List.pairwise_map.2 (h.imp fun {a b} hab => ?_))
  exact decide_eq_true (List.le_of_lt hab)
theorem mget_perm {α : Type} {s : ByteArray} {L L' : List (ByteArray × α)} (p : L.Perm L') (hn : (L.map (·.1)).Nodup) : mget L s = mget L' s := by
  have hn' : (L'.map (·.1)).Nodup := (p.map (·.1)).nodup_iff.1 hn
  cases h : mget L s with
  | some v => rw [mget_mem hn' (p.subset (mem_of_mget h))]
  | none =>
    cases h' : mget L' s with
    | none => rfl
    | some v => rw [mget_mem hn (p.symm.subset (mem_of_mget h'))] at h; cases h
theorem total_perm (T : FileTab) {L L' : Dir} (p : L.Perm L') : total T L = total T L' := by
  induction p with
  | nil => rfl
  | cons _ _ ih => simp only [total, ih]
  | swap _ _ _ => simp only [total]; omega
  | trans _ _ ih1 ih2 => exact ih1.trans ih2
theorem total_onVals {T T' : FileTab} {φ : Nat → Nat} : ∀ {L : Dir}, (∀ q ∈ L, fget T' (φ q.2) = fget T q.2) → total T' (onVals φ L) = total T L
  | [], _ => rfl
  | q :: L, h => by
    have ih := total_onVals (T := T) (T' := T') (φ := φ) (L := L) fun x hx => h x (List.mem_cons_of_mem _ hx)
    show ((fget T' (φ q.2)).map (·.bytes.length)).getD 0 + total T' (onVals φ L) = _
    rw [h q (List.mem_cons_self ..), ih]; rfl
theorem mput_perm {L : Dir} {s : ByteArray} {g : Nat} (hn : (L.map (·.1)).Nodup) : (mput L s g).Perm ((s, g) :: mdel L s) := by
  induction L with
  | nil => exact List.Perm.refl _
  | cons p l ih =>
    simp only [List.map_cons, List.nodup_cons] at hn
    have ih := ih hn.2
    by_cases hp : p.1 = s
    · have hno : ∀ q ∈ l, q.1 ≠ s := fun q hq e => hn.1 (by rw [hp, ← e]; exact List.mem_map_of_mem hq)
      have e1 : mput (p :: l) s g = (s, g) :: l := by
        unfold mput
        rw [if_pos (by simp [hp])]
        rw [List.map_cons, if_pos hp, hp]
        have e : (l.map fun p => if p.1 = s then (p.1, g) else p) = l := by
          conv => rhs; rw [← List.map_id l]
          exact List.map_congr_left fun q hq => by rw [if_neg (hno q hq)]; rfl
        rw [e]
      have e2 : mdel (p :: l) s = l := by
        unfold mdel
        rw [List.filter_cons, if_neg (by simp [hp])]
        exact List.filter_eq_self.2 fun q hq => by simp [hno q hq]
      rw [e1, e2]
    · have e1 : mput (p :: l) s g = p :: mput l s g := by
        unfold mput
        simp only [List.any_cons, hp, decide_false, Bool.false_or]
        split
        · rw [List.map_cons, if_neg hp]
        · rfl
      have e2 : mdel (p :: l) s = p :: mdel l s := by unfold mdel; rw [List.filter_cons, if_pos (by simp [hp])]
      rw [e1, e2]
      exact (List.Perm.cons p ih).trans (List.Perm.swap _ _ _)
theorem mdel_get_perm {L : Dir} {s : ByteArray} {g : Nat} (hn : (L.map (·.1)).Nodup) (h : mget L s = some g) : ((s, g) :: mdel L s).Perm L := by
  have h1 := mput_perm (g := g) hn (s := s)
  have e : mput L s g = L := by
    unfold mput
    have hm := mem_of_mget h
    rw [if_pos (List.any_eq_true.2 ⟨_, hm, by simp⟩)]
    conv => rhs; rw [← List.map_id L]
    refine List.map_congr_left fun q hq => ?_
    by_cases hq2 : q.1 = s
    · have : mget L s = some q.2 := by rw [← hq2]; exact mget_mem hn hq
      rw [this] at h
      injection h with h
      obtain ⟨a, b⟩ := q
      simp only at hq2 h
      rw [if_pos hq2, h, hq2]; rfl
    · simp [hq2]
  rw [e] at h1
  exact h1.symm
/-- The reference's disk beside a disk: its files by φ. -/
structure Beside (φ : Nat → Nat) (D M : DiskSt) : Prop where
  size : M.size = D.size
  now : M.now.Perm (onVals φ D.now)
  sure : M.sure.Perm (onVals φ D.sure)
  srt : Srt M.now
  srtS : Srt M.sure
  files : ∀ g f, fget D.files g = some f → fget M.files (φ g) = some f
  inj : ∀ g h, (fget D.files g).isSome = true → (fget D.files h).isSome = true → φ g = φ h → g = h
theorem keys_onVals {α β : Type} (φ : α → β) (L : List (ByteArray × α)) : (onVals φ L).map (·.1) = L.map (·.1) := by unfold onVals; rw [List.map_map]; rfl
theorem beside_new (n : Nat) : Beside id (newDisk n) (newDisk n) := ⟨rfl, List.Perm.refl _, List.Perm.refl _, List.Pairwise.nil, List.Pairwise.nil, fun _ _ h => h, fun _ _ _ _ h => h⟩
section
variable {φ : Nat → Nat} {D M : DiskSt} (h : Beside φ D M)
include h
theorem Beside.get (s : ByteArray) : mget M.now s = (mget D.now s).map φ := by rw [mget_perm h.now h.srt.nodup, mget_onVals]
theorem Beside.len : M.now.length = D.now.length := by rw [h.now.length_eq, length_onVals]
theorem Beside.left (hok : DiskOk D) : leftOf M = leftOf D := by
  unfold leftOf
  rw [h.size, total_perm M.files h.now]
  congr 1
  refine total_onVals fun q hq => ?_
  obtain ⟨f, hf⟩ := Option.isSome_iff_exists.1 (hok.now q hq)
  rw [hf, h.files _ _ hf]
theorem Beside.list : listOf D = M.now.map (·.1.data.toList) := by
  refine h.srt.names ?_
  have := h.now.map (·.1)
  rwa [keys_onVals] at this
theorem Beside.names : Beside φ { D with sure := D.now } { M with sure := M.now } := ⟨h.size, h.now, h.now, h.srt, h.srt, h.files, h.inj⟩
theorem Beside.removed (s : ByteArray) : Beside φ { D with now := mdel D.now s } { M with now := mdel M.now s } :=
  ⟨h.size, by show (mdel M.now s).Perm _; rw [← mdel_onVals]; exact h.now.filter _, h.sure, h.srt.sub (mdel_sub _ _), h.srtS, h.files, h.inj⟩
theorem Beside.fset {g : Nat} {f f' : FileSt} (hg : fget D.files g = some f) : Beside φ { D with files := fset D.files g f' } { M with files := Go.Proofs.YtcakdaadbpimaaaGreatDoor.fset M.files (φ g) f' } := by
  refine ⟨h.size, h.now, h.sure, h.srt, h.srtS, fun k x hk => ?_, fun k j hk hj e => ?_⟩
  · by_cases hkg : k = g
    · subst hkg
      rw [fget_fset_same _ _ _ _ hg] at hk
      show fget (Go.Proofs.YtcakdaadbpimaaaGreatDoor.fset M.files (φ k) f') (φ k) = _
      rw [fget_fset_same _ _ _ _ (h.files _ _ hg)]; exact hk
    · rw [fget_fset_other _ _ _ _ hkg] at hk
      show fget (Go.Proofs.YtcakdaadbpimaaaGreatDoor.fset M.files (φ g) f') (φ k) = _
      rw [fget_fset_other _ _ _ _ fun e => hkg (h.inj _ _ (by rw [hk]; rfl) (by rw [hg]; rfl) e)]
      exact h.files _ _ hk
  · have back : ∀ k, (fget (Go.Proofs.YtcakdaadbpimaaaGreatDoor.fset D.files g f') k).isSome = true → (fget D.files k).isSome = true := fun k hk => by
      by_cases hkg : k = g
      · subst hkg; rw [hg]; rfl
      · rwa [fget_fset_other _ _ _ _ hkg] at hk
    exact h.inj _ _ (back k hk) (back j hj) e
theorem Beside.created (hok : DiskOk D) {s : ByteArray} {g g' : Nat} (hs : mget D.now s = none) (hg : fget D.files g = none) (hg' : fget M.files g' = none) :
    Beside (fun x => if x = g then g' else φ x) (created D s g) ⟨M.size, leadL s g' M.now, M.sure, (g', ⟨[], 0⟩) :: M.files⟩ := by
  have hne : ∀ {L : Dir}, (∀ q ∈ L, (fget D.files q.2).isSome = true) → onVals (fun x => if x = g then g' else φ x) L = onVals φ L := fun hL => List.map_congr_left fun q hq => by
    have : q.2 ≠ g := fun e => by have := hL q hq; rw [e, hg] at this; cases this
    simp [this]
  have hM : ∀ q ∈ M.now, q.1 ≠ s := not_mget (by rw [h.get, hs]; rfl)
  refine ⟨h.size, ?_, ?_, leadL_srt h.srt hM, h.srtS, fun k f hk => ?_, fun k j hk hj e => ?_⟩
  · refine (leadL_perm s g' M.now).trans ?_
    show List.Perm _ (onVals _ (mput D.now s g))
    rw [mput_new hs, onVals, List.map_append]
    refine ((List.Perm.cons _ h.now).trans ?_)
    have e1 : List.map (fun p : ByteArray × Nat => (p.1, if p.2 = g then g' else φ p.2)) D.now = onVals φ D.now := hne hok.now
    have e2 : List.map (fun p : ByteArray × Nat => (p.1, if p.2 = g then g' else φ p.2)) [(s, g)] = [(s, g')] := by simp
    rw [e1, e2]
    exact (List.perm_append_singleton (s, g') (onVals φ D.now)).symm
  · show M.sure.Perm (onVals _ D.sure)
    rw [hne hok.sure]; exact h.sure
  · by_cases hkg : k = g
    · subst hkg
      simp only [Go.Proofs.YtcakdaadbpimaaaGreatDoor.created, fget, if_true] at hk ⊢
      exact hk
    · simp only [Go.Proofs.YtcakdaadbpimaaaGreatDoor.created, fget, if_neg (Ne.symm hkg)] at hk
      have hk2 := h.files _ _ hk
      simp only [if_neg hkg, fget]
      rw [if_neg (fun e => by rw [e, hk2] at hg'; cases hg')]
      exact hk2
  · have hsome : ∀ k, (fget (Go.Proofs.YtcakdaadbpimaaaGreatDoor.created D s g).files k).isSome = true → k ≠ g → (fget D.files k).isSome = true := fun k hk hkg => by
      simpa only [Go.Proofs.YtcakdaadbpimaaaGreatDoor.created, fget, if_neg (Ne.symm hkg)] using hk
    have hno : ∀ k, (fget D.files k).isSome = true → φ k ≠ g' := fun k hk e => by
      obtain ⟨f, hf⟩ := Option.isSome_iff_exists.1 hk
      have := h.files _ _ hf
      rw [e, hg'] at this; cases this
    by_cases hkg : k = g <;> by_cases hjg : j = g
    · rw [hkg, hjg]
    · simp only [if_pos hkg, if_neg hjg] at e; exact absurd e.symm (hno j (hsome j hj hjg))
    · simp only [if_neg hkg, if_pos hjg] at e; exact absurd e (hno k (hsome k hk hkg))
    · simp only [if_neg hkg, if_neg hjg] at e; exact h.inj _ _ (hsome k hk hkg) (hsome j hj hjg) e
theorem Beside.renamed (hok : DiskOk D) {a b : ByteArray} {g : Nat} (hg : mget D.now a = some g) : Beside φ (renamed D a b g) (if a = b then M else { M with now := leadL b (φ g) (mdel (mdel M.now a) b) }) := by
  have hk1 : ((mdel D.now a).map (·.1)).Nodup := hok.keys.sublist ((mdel_sub _ _).map _)
  have hp := mput_perm (s := b) (g := g) hk1
  by_cases hab : a = b
  · subst hab
    rw [if_pos rfl]
    refine ⟨h.size, h.now.trans ?_, h.sure, h.srt, h.srtS, h.files, h.inj⟩
    have e : mdel (mdel D.now a) a = mdel D.now a := by unfold mdel; rw [List.filter_filter]; simp
    rw [e] at hp
    exact ((hp.trans (mdel_get_perm hok.keys hg)).map _).symm
  · rw [if_neg hab]
    refine ⟨h.size, ?_, h.sure, leadL_srt (h.srt.sub ((mdel_sub _ _).trans (mdel_sub _ _))) fun q hq => ?_, h.srtS, h.files, h.inj⟩
    · refine (leadL_perm _ _ _).trans ?_
      refine List.Perm.trans ?_ (hp.map _).symm
      refine List.Perm.cons _ ?_
      have h1 := (h.now.filter (fun p => !decide (p.1 = a))).filter (fun p => !decide (p.1 = b))
      have e : mdel (mdel (onVals φ D.now) a) b = onVals φ (mdel (mdel D.now a) b) := by rw [mdel_onVals, mdel_onVals]
      exact h1.trans (List.Perm.of_eq e)
    · have := (List.mem_filter.1 hq).2
      simpa using this
end
theorem perm_lift {α β : Type} (f : α → β) : ∀ (L : List β) (A : List α), (A.map f).Perm L → ∃ A' : List α, A'.Perm A ∧ A'.map f = L := by
  intro L A h
  generalize hB : A.map f = B at h
  induction h generalizing A with
  | nil => exact ⟨[], by rw [List.map_eq_nil_iff.1 hB], rfl⟩
  | cons x _ ih =>
    match A, hB with
    | a :: A, hB =>
      simp only [List.map_cons, List.cons.injEq] at hB
      obtain ⟨A', h1, h2⟩ := ih A hB.2
      exact ⟨a :: A', h1.cons a, by rw [List.map_cons, h2, hB.1]⟩
  | swap x y l =>
    match A, hB with
    | a :: b :: A, hB =>
      simp only [List.map_cons, List.cons.injEq] at hB
      exact ⟨b :: a :: A, List.Perm.swap _ _ _, by simp [hB.1, hB.2.1, hB.2.2]⟩
  | trans _ _ ih1 ih2 =>
    obtain ⟨A1, h1, h2⟩ := ih1 A hB
    obtain ⟨A2, h3, h4⟩ := ih2 A1 h2
    exact ⟨A2, h3.trans h1, h4⟩
theorem map_of_ids : ∀ (a b : List Nat), a.length = b.length → a.Nodup → ∃ φ : Nat → Nat, b = a.map φ
  | [], [], _, _ => ⟨id, rfl⟩
  | x :: a, y :: b, h, hn => by
    have hn' := List.nodup_cons.1 hn
    obtain ⟨φ, hφ⟩ := map_of_ids a b (by simpa using h) hn'.2
    refine ⟨fun z => if z = x then y else φ z, ?_⟩
    simp only [List.map_cons, if_true]
    congr 1
    rw [hφ]
    exact List.map_congr_left fun z hz => by rw [if_neg (fun e => hn'.1 (by rw [← e]; exact hz))]
/-- The reference's names and files behind a failure, in order. -/
theorem beside_left {n : Nat} {A R : Made} (hp : (A.map fun q => (q.1, q.2.2)).Perm (R.map fun q => (q.1, q.2.2))) (hA : (A.map (·.2.1)).Nodup) (hR : (R.map (·.2.1)).Nodup) (hs : Srt (R.map fun q => (q.1, q.2.1))) :
    ∃ φ, Beside φ ⟨n, A.dir, A.dir, A.tab⟩ ⟨n, R.map fun q => (q.1, q.2.1), R.map fun q => (q.1, q.2.1), R.tab⟩ := by
  obtain ⟨A', h1, h2⟩ := perm_lift _ _ A hp
  have hA' : (A'.map (·.2.1)).Nodup := (h1.map _).nodup_iff.2 hA
  have hlen : A'.length = R.length := by have := congrArg List.length h2; simpa using this
  obtain ⟨φ, hφ⟩ := map_of_ids (A'.map (·.2.1)) (R.map (·.2.1)) (by simp [hlen]) hA'
  have key : ∀ i (ha : i < A'.length) (hr : i < R.length), R[i] = (A'[i].1, φ A'[i].2.1, A'[i].2.2) := fun i ha hr => by
    have e1 := congrArg (fun l => l[i]?) h2
    have e2 := congrArg (fun l => l[i]?) hφ
    simp only [List.getElem?_map, List.getElem?_eq_getElem ha, List.getElem?_eq_getElem hr, Option.map_some, Option.some.injEq, Prod.mk.injEq] at e1 e2
    ext1
    · exact e1.1.symm
    · ext1
      · exact e2
      · exact e1.2.symm
  have hRA : R = A'.map fun q => (q.1, φ q.2.1, q.2.2) := by
    refine List.ext_getElem (by simp [hlen]) fun i hr ha => ?_
    rw [key i (by simpa using ha) hr, List.getElem_map]
  have hdir : (R.map fun q => (q.1, q.2.1)).Perm (onVals φ A.dir) := by
    rw [hRA, List.map_map]
    show (A'.map fun q => (q.1, φ q.2.1)).Perm _
    have e : onVals φ A.dir = (A.map fun q => (q.1, φ q.2.1)).reverse := by unfold onVals Made.dir; rw [List.map_reverse, List.map_map]; rfl
    rw [e]
    exact (h1.map _).trans (List.reverse_perm _).symm
  refine ⟨φ, rfl, hdir, hdir, hs, hs, fun g f hf => ?_, fun g k hg hk e => ?_⟩
  · have hm := mem_of_fget _ _ _ hf
    obtain ⟨q, hq, hqe⟩ := List.mem_map.1 hm
    have hq' := h1.symm.subset hq
    refine fget_mem _ _ _ (by show ((R.map (·.2)).map (·.1)).Nodup; rw [List.map_map]; exact hR) ?_
    show (φ g, f) ∈ R.map (·.2)
    rw [hRA, List.map_map]
    exact List.mem_map.2 ⟨q, hq', by simp only [Function.comp]; rw [hqe]⟩
  · have mem : ∀ g, (fget A.tab g).isSome = true → g ∈ A'.map (·.2.1) := fun g hg => by
      obtain ⟨f, hf⟩ := Option.isSome_iff_exists.1 hg
      obtain ⟨q, hq, hqe⟩ := List.mem_map.1 (mem_of_fget _ _ _ hf)
      exact List.mem_map.2 ⟨q, h1.symm.subset hq, by rw [hqe]⟩
    obtain ⟨i, hi, ei⟩ := List.getElem_of_mem (mem g hg)
    obtain ⟨j, hj, ej⟩ := List.getElem_of_mem (mem k hk)
    rw [hφ] at hR
    have := List.getElem_inj (h₀ := (by simpa using hi : i < ((A'.map (·.2.1)).map φ).length)) (h₁ := (by simpa using hj : j < ((A'.map (·.2.1)).map φ).length)) hR
    simp only [List.getElem_map] at this ei ej
    rw [ei, ej] at this
    have hij := this.1 e
    subst hij
    exact ei.symm.trans ej
end Go.Proofs.YtcakdaadbpimaaaGreatDoor
