/- What a disk is, in plain lists; and the disk in the small separation logic: definitions and plain lemmas. -/
import Derived.Test.YtmpgnnjhgjfgaaaDoorDisk0
namespace Go.Proofs.YtmpgnnjhgjfgaaaDoor
open Go Go.Sl
/-- A file: its bytes, how many are sure. -/
structure FileSt where
  bytes : List UInt8
  sure : Nat
abbrev Dir := List (ByteArray × Nat)
abbrev FileTab := List (Nat × FileSt)
def fget : FileTab → Nat → Option FileSt
  | [], _ => none
  | p :: l, g => if p.1 = g then some p.2 else fget l g
def fset : FileTab → Nat → FileSt → FileTab
  | [], _, _ => []
  | p :: l, g, f => if p.1 = g then (g, f) :: l else p :: fset l g f
def fdel : FileTab → Nat → FileTab
  | [], _ => []
  | p :: l, g => if p.1 = g then l else p :: fdel l g
theorem fget_fset_same : ∀ (T : FileTab) (g : Nat) (f f' : FileSt), fget T g = some f → fget (fset T g f') g = some f'
  | [], _, _, _, h => by cases h
  | p :: l, g, f, f', h => by
    unfold fget at h
    unfold fset
    by_cases hp : p.1 = g
    · rw [if_pos hp]; simp [fget]
    · rw [if_neg hp] at h ⊢; simp only [fget, if_neg hp]; exact fget_fset_same l g f f' h
theorem fget_fset_other : ∀ (T : FileTab) (g k : Nat) (f' : FileSt), k ≠ g → fget (fset T g f') k = fget T k
  | [], _, _, _, _ => rfl
  | p :: l, g, k, f', h => by
    unfold fset
    by_cases hp : p.1 = g
    · rw [if_pos hp]; simp only [fget]; rw [if_neg (fun e => h e.symm), if_neg (fun e => h (by rw [← e, hp]))]
    · rw [if_neg hp]; simp only [fget]; rw [fget_fset_other l g k f' h]
theorem fget_isSome_fset (T : FileTab) (g k : Nat) (f' : FileSt) (h : (fget T k).isSome = true) : (fget (fset T g f') k).isSome = true := by
  by_cases hk : k = g
  · subst hk
    obtain ⟨f, hf⟩ := Option.isSome_iff_exists.1 h
    rw [fget_fset_same T k f f' hf]; rfl
  · rw [fget_fset_other T g k f' hk]; exact h
theorem mem_fset : ∀ (T : FileTab) (g : Nat) (f' : FileSt) (p : Nat × FileSt), p ∈ fset T g f' → p ∈ T ∨ p = (g, f')
  | [], _, _, _, h => by cases h
  | q :: l, g, f', p, h => by
    unfold fset at h
    by_cases hq : q.1 = g
    · rw [if_pos hq] at h
      rcases List.mem_cons.1 h with h | h
      · exact .inr h
      · exact .inl (List.mem_cons_of_mem _ h)
    · rw [if_neg hq] at h
      rcases List.mem_cons.1 h with h | h
      · exact .inl (by rw [h]; exact List.mem_cons_self ..)
      · rcases mem_fset l g f' p h with h | h
        · exact .inl (List.mem_cons_of_mem _ h)
        · exact .inr h
theorem mem_of_fget : ∀ (T : FileTab) (g : Nat) (f : FileSt), fget T g = some f → (g, f) ∈ T
  | [], _, _, h => by cases h
  | p :: l, g, f, h => by
    unfold fget at h
    by_cases hp : p.1 = g
    · rw [if_pos hp] at h; injection h with h; subst h; subst hp; exact List.mem_cons_self ..
    · rw [if_neg hp] at h; exact List.mem_cons_of_mem _ (mem_of_fget l g f h)
/-- A disk: its size, names as they are and as they are sure, the files by their places. -/
structure DiskSt where
  size : Nat
  now : Dir
  sure : Dir
  files : FileTab
structure DiskOk (D : DiskSt) : Prop where
  pos : 0 < D.size
  most : D.size ≤ 8388608
  many : D.now.length ≤ 64
  now : ∀ p ∈ D.now, (fget D.files p.2).isSome = true
  sure : ∀ p ∈ D.sure, (fget D.files p.2).isSome = true
  len : ∀ p ∈ D.files, p.2.bytes.length ≤ 1048576
  upto : ∀ p ∈ D.files, p.2.sure ≤ p.2.bytes.length
  keys : (D.now.map (·.1)).Nodup
  keysS : (D.sure.map (·.1)).Nodup
  inj : (D.now.map (·.2)).Nodup
  injS : (D.sure.map (·.2)).Nodup
  named : ∀ q ∈ D.now, nameOk q.1 = true
  namedS : ∀ q ∈ D.sure, nameOk q.1 = true
  manyS : D.sure.length ≤ 64
theorem fset_ok {D : DiskSt} (h : DiskOk D) {g : Nat} {f f' : FileSt} (_ : fget D.files g = some f) (h1 : f'.bytes.length ≤ 1048576) (h2 : f'.sure ≤ f'.bytes.length) : DiskOk { D with files := fset D.files g f' } :=
  ⟨h.pos, h.most, h.many, fun p hp => fget_isSome_fset _ _ _ _ (h.now p hp), fun p hp => fget_isSome_fset _ _ _ _ (h.sure p hp),
    fun p hp => (mem_fset _ _ _ _ hp).elim (fun hp => h.len p hp) (fun e => by rw [e]; exact h1), fun p hp => (mem_fset _ _ _ _ hp).elim (fun hp => h.upto p hp) (fun e => by rw [e]; exact h2), h.keys, h.keysS, h.inj, h.injS, h.named, h.namedS, h.manyS⟩
abbrev ptr (g : Nat) : Value := .pointer (some ⟨g, 0, none⟩)
def ptrs (L : Dir) : Pairs := onVals ptr L
def u8s (l : List UInt8) : List Value := l.map fun b => .int .u8 b.toNat
theorem length_u8s (l : List UInt8) : (u8s l).length = l.length := by simp [u8s]
theorem one_u8s (l : List UInt8) : ∀ u ∈ u8s l, u.oneCell' = true := by
  intro u hu
  obtain ⟨b, _, rfl⟩ := List.mem_map.1 hu
  rfl
theorem u8s_append (a b : List UInt8) : u8s (a ++ b) = u8s a ++ u8s b := by simp [u8s]
def fileA (g : Nat) (f : FileSt) : Asn := ex fun v : Value => blk g (.cells #[.int .i64 (f.sure : Int), v] 79 (0, 0)) * rowA 5 1 v f.bytes.length (u8s f.bytes)
def filesA : FileTab → Asn
  | [] => emp
  | p :: l => fileA p.1 p.2 * filesA l
theorem filesA_take : ∀ (T : FileTab) (g : Nat) (f : FileSt), fget T g = some f → filesA T = fileA g f * filesA (fdel T g)
  | [], _, _, h => by cases h
  | p :: l, g, f, h => by
    unfold fget at h
    by_cases hp : p.1 = g
    · rw [if_pos hp] at h; injection h with h; subst h; subst hp; simp [filesA, fdel]
    · rw [if_neg hp] at h
      simp only [filesA, fdel, if_neg hp]
      rw [filesA_take l g f h, sep_left_comm]
theorem filesA_put : ∀ (T : FileTab) (g : Nat) (f f' : FileSt), fget T g = some f → filesA (fset T g f') = fileA g f' * filesA (fdel T g)
  | [], _, _, _, h => by cases h
  | p :: l, g, f, f', h => by
    unfold fget at h
    by_cases hp : p.1 = g
    · simp [filesA, fdel, fset, hp]
    · rw [if_neg hp] at h
      simp only [filesA, fdel, fset, if_neg hp]
      rw [filesA_put l g f f' h, sep_left_comm]
theorem filesA_append : ∀ (T U : FileTab), filesA (T ++ U) = filesA T * filesA U
  | [], U => (emp_sep _).symm
  | p :: l, U => by simp only [List.cons_append, filesA]; rw [filesA_append l U, sep_assoc]
instance Take.files (T : FileTab) : Take (filesA T) filesA T emp := ⟨(sep_emp _).symm⟩
instance Take.file (g : Nat) (f : FileSt) : Take (fileA g f) (fileA g) f emp := ⟨(sep_emp _).symm⟩
/-- A row by its value: what it is known by in a search. -/
def rowQ (e : TypeId) (size : Nat) (v : Value) (q : Nat × List Value) : Asn := rowA e size v q.1 q.2
instance Take.row (e : TypeId) (size : Nat) (v : Value) (n : Nat) (xs : List Value) : Take (rowA e size v n xs) (rowQ e size v) (n, xs) emp := ⟨(sep_emp _).symm⟩
/-- The disk at block p. -/
def diskA (p : Nat) (D : DiskSt) : Asn :=
  ex fun r : Nat × Nat => pur (DiskOk D) * (blk p (.cells #[.int .i64 (D.size : Int), .map (some r.1), .map (some r.2)] 84 (0, 0)) * (smap r.1 (ptrs D.now) * (smap r.2 (ptrs D.sure) * filesA D.files)))
instance Take.disk (p : Nat) (D : DiskSt) : Take (diskA p D) (diskA p) D emp := ⟨(sep_emp _).symm⟩
/-- The disk's parts, laid open, with what is beside it. -/
def diskO (p rn rs : Nat) (D : DiskSt) (F : Asn) : Asn :=
  blk p (.cells #[.int .i64 (D.size : Int), .map (some rn), .map (some rs)] 84 (0, 0)) * (smap rn (ptrs D.now) * (smap rs (ptrs D.sure) * (filesA D.files * F)))
section
variable {w w0 : World} {S F : Asn} {p rn rs : Nat} {D : DiskSt}
theorem disk_open (m : Mod w w0 S) (t : Take S (diskA p) D F) : ∃ rn rs, DiskOk D ∧ Mod w w0 (blk p (.cells #[.int .i64 (D.size : Int), .map (some rn), .map (some rs)] 84 (0, 0)) * (smap rn (ptrs D.now) * (smap rs (ptrs D.sure) * (filesA D.files * F)))) := by
  have m1 : Mod w w0 (diskA p D * F) := by rw [← t.eq]; exact m
  obtain ⟨⟨rn, rs⟩, m2⟩ := Mod.open (w := w) (w0 := w0) (m := m1)
  rw [sep_assoc] at m2
  obtain ⟨h, m3⟩ := Mod.openP (w := w) (w0 := w0) (m := m2)
  exact ⟨rn, rs, h, by simpa only [sep_assoc] using m3⟩
/-- One file laid open. -/
theorem file_open {g : Nat} {f : FileSt} {T : FileTab} (m : Mod w w0 S) (t : Take S filesA T F) (h : fget T g = some f) :
    ∃ A c, Mod w w0 (blk g (.cells #[.int .i64 (f.sure : Int), .slice A f.bytes.length c] 79 (0, 0)) * (rowA 5 1 (.slice A f.bytes.length c) f.bytes.length (u8s f.bytes) * (filesA (fdel T g) * F))) := by
  have m1 : Mod w w0 (filesA T * F) := by rw [← t.eq]; exact m
  rw [filesA_take T g f h, sep_assoc] at m1
  obtain ⟨v, m2⟩ := Mod.open (w := w) (w0 := w0) (m := m1)
  rw [sep_assoc] at m2
  have hv : ∃ A c, v = .slice A f.bytes.length c := by
    have m3 : Mod w w0 (rowA 5 1 v f.bytes.length (u8s f.bytes) * (blk g (.cells #[.int .i64 (f.sure : Int), v] 79 (0, 0)) * (filesA (fdel T g) * F))) := by rw [sep_left_comm]; exact m2
    rcases (owns_of_row m3).2 with ⟨h1, h2⟩ | ⟨g, cap, cur, h1, _⟩
    · exact ⟨none, 0, by rw [h1, h2]⟩
    · exact ⟨_, _, h1⟩
  obtain ⟨A, c, rfl⟩ := hv
  exact ⟨A, c, m2⟩
/-- .. and shut again, whatever has become of it. -/
theorem file_shut {g : Nat} {sz : Int} {v : Value} {n : Nat} {xs : List Value} {S2 S3 S4 : Asn} {T' : FileTab} (m : Mod w w0 S) [t1 : Take S (blk g) (.cells #[.int .i64 sz, v] 79 (0, 0)) S2] [t2 : Take S2 (rowQ 5 1 v) (n, xs) S3] [t3 : Take S3 filesA T' S4]
    {T : FileTab} {f : FileSt} (hf : fget T g = some f) (hT : T' = fdel T g) (f' : FileSt) (h1 : sz = (f'.sure : Int)) (h2 : n = f'.bytes.length) (h3 : xs = u8s f'.bytes) : Mod w w0 (filesA (fset T g f') * S4) := by
  subst h1 h2 h3 hT
  rw [filesA_put T g f f' hf, sep_assoc]
  have e : S = blk g (.cells #[.int .i64 (f'.sure : Int), v] 79 (0, 0)) * (rowA 5 1 v f'.bytes.length (u8s f'.bytes) * (filesA (fdel T g) * S4)) := by
    rw [t1.eq, t2.eq, t3.eq]; rfl
  rw [e, ← sep_assoc] at m
  exact Mod.shut v (m := m)
theorem disk_shut {S1 S2 S3 S4 S5 : Asn} {sz : Int} {Ln Ls : Pairs} {T : FileTab} (m : Mod w w0 S1) [t1 : Take S1 (blk p) (.cells #[.int .i64 sz, .map (some rn), .map (some rs)] 84 (0, 0)) S2] [t2 : Take S2 (smap rn) Ln S3] [t3 : Take S3 (smap rs) Ls S4] [t4 : Take S4 filesA T S5] [s : Sub S5 F]
    (D : DiskSt) (hok : DiskOk D) (h1 : sz = (D.size : Int)) (h2 : Ln = ptrs D.now) (h3 : Ls = ptrs D.sure) (h4 : T = D.files) : Mod w w0 (diskA p D * F) := by
  subst h1 h2 h3 h4
  have e : S1 = blk p (.cells #[.int .i64 (D.size : Int), .map (some rn), .map (some rs)] 84 (0, 0)) * (smap rn (ptrs D.now) * (smap rs (ptrs D.sure) * filesA D.files)) * S5 := by
    rw [t1.eq, t2.eq, t3.eq, t4.eq]; simp only [sep_assoc]
  have m1 : Mod w w0 (pur (DiskOk D) * (blk p (.cells #[.int .i64 (D.size : Int), .map (some rn), .map (some rs)] 84 (0, 0)) * (smap rn (ptrs D.now) * (smap rs (ptrs D.sure) * filesA D.files))) * S5) := by
    rw [sep_assoc, ← e]; exact Mod.shutP hok (m := m)
  have m2 : Mod w w0 (diskA p D * S5) := Mod.shut (G := fun r : Nat × Nat => pur (DiskOk D) * (blk p (.cells #[.int .i64 (D.size : Int), .map (some r.1), .map (some r.2)] 84 (0, 0)) * (smap r.1 (ptrs D.now) * (smap r.2 (ptrs D.sure) * filesA D.files)))) (rn, rs) (m := m1)
  refine ⟨m2.os, m2.tape, m2.output, ?_⟩
  have h := m2.says
  rw [sep_assoc] at h ⊢
  obtain ⟨a, b, h1, h2, h3, h4⟩ := h
  exact ⟨a, b, h1, h2, h3, s.sub _ h4⟩
/-- A file of the table lies in the heap. -/
theorem files_lt : ∀ (T : FileTab) (g : Nat) (f : FileSt) (h : Hp), (filesA T).says h → fget T g = some f → (h g).isSome = true := by
  intro T g f h hs hf
  rw [filesA_take T g f hf] at hs
  obtain ⟨a, b, _, rfl, ⟨v, c, d, _, rfl, hc, _⟩, _⟩ := hs
  have hc : c = Hp.one g (.cells #[.int .i64 (f.sure : Int), v] 79 (0, 0)) := hc
  simp [Hp.join, hc, Hp.one]
theorem fresh_file {T : FileTab} (m : Mod w w0 S) (t : Take S filesA T F) : fget T w.heap.size = none := by
  cases h : fget T w.heap.size with
  | none => rfl
  | some f =>
    have hs := m.says
    rw [t.eq, sep_assoc] at hs
    obtain ⟨a, b, _, h2, ha, _⟩ := hs
    have h3 := files_lt T _ f a ha h
    obtain ⟨o, ho⟩ := Option.isSome_iff_exists.1 h3
    have : hp w w.heap.size = some o := by rw [h2]; simp [Hp.join, ho]
    simp [hp] at this
end
/-- A new name, with a new and empty file at place g. -/
def created (D : DiskSt) (name : ByteArray) (g : Nat) : DiskSt := { D with now := mput D.now name g, files := (g, ⟨[], 0⟩) :: D.files }
theorem mput_new {α : Type} {L : List (ByteArray × α)} {s : ByteArray} (h : mget L s = none) (v : α) : mput L s v = L ++ [(s, v)] := by
  unfold mput
  rw [if_neg]
  intro e
  obtain ⟨q, hq, hqs⟩ := List.any_eq_true.1 e
  unfold mget at h
  have h0 : L.find? (fun p => decide (p.1 = s)) = none := by cases hf : L.find? (fun p => decide (p.1 = s)) with | none => rfl | some x => rw [hf] at h; cases h
  exact List.find?_eq_none.1 h0 q hq hqs
theorem not_mget {α : Type} {L : List (ByteArray × α)} {s : ByteArray} (h : mget L s = none) (q : ByteArray × α) (hq : q ∈ L) : q.1 ≠ s := fun e => by
  unfold mget at h
  have h0 : L.find? (fun p => decide (p.1 = s)) = none := by cases hf : L.find? (fun p => decide (p.1 = s)) with | none => rfl | some x => rw [hf] at h; cases h
  exact List.find?_eq_none.1 h0 q hq (by simp [e])
theorem created_ok {D : DiskSt} (h : DiskOk D) {name : ByteArray} {g : Nat} (hn : nameOk name = true) (hg : mget D.now name = none) (hroom : D.now.length < 64) (hfr : fget D.files g = none) : DiskOk (created D name g) := by
  have hkeep : ∀ k, (fget D.files k).isSome = true → (fget ((g, (⟨[], 0⟩ : FileSt)) :: D.files) k).isSome = true := fun k hk => by
    simp only [fget]
    split
    · rfl
    · exact hk
  have hput : mput D.now name g = D.now ++ [(name, g)] := mput_new hg g
  refine ⟨h.pos, h.most, by show (mput D.now name g).length ≤ 64; rw [hput]; simp; omega, fun q hq => ?_, fun q hq => hkeep _ (h.sure q hq), fun q hq => ?_, fun q hq => ?_, ?_, h.keysS, ?_, h.injS, fun q hq => ?_, h.namedS, h.manyS⟩
  · have hq : q ∈ mput D.now name g := hq
    rw [hput, List.mem_append, List.mem_singleton] at hq
    rcases hq with hq | rfl
    · exact hkeep _ (h.now q hq)
    · simp [created, fget]
  · rcases List.mem_cons.1 hq with rfl | hq
    · simp
    · exact h.len q hq
  · rcases List.mem_cons.1 hq with rfl | hq
    · simp
    · exact h.upto q hq
  · show ((mput D.now name g).map (·.1)).Nodup
    rw [hput, List.map_append, List.nodup_append]
    refine ⟨h.keys, by simp, fun a ha b hb e => ?_⟩
    simp only [List.map_cons, List.map_nil, List.mem_singleton] at hb
    subst hb
    rw [← e] at hg
    obtain ⟨q, hq, hqa⟩ := List.mem_map.1 ha
    exact not_mget hg q hq hqa
  · show ((mput D.now name g).map (·.2)).Nodup
    rw [hput, List.map_append, List.nodup_append]
    refine ⟨h.inj, by simp, fun a ha b hb e => ?_⟩
    simp only [List.map_cons, List.map_nil, List.mem_singleton] at hb
    subst hb
    obtain ⟨q, hq, hqa⟩ := List.mem_map.1 ha
    have := h.now q hq
    rw [hqa, e, hfr] at this
    cases this
  · have hq : q ∈ mput D.now name g := hq
    rw [hput, List.mem_append, List.mem_singleton] at hq
    rcases hq with hq | rfl
    · exact h.named q hq
    · exact hn
theorem sub_ok {D : DiskSt} (h : DiskOk D) {L : Dir} (hs : L.Sublist D.now) : DiskOk { D with now := L } :=
  ⟨h.pos, h.most, Nat.le_trans hs.length_le h.many, fun p hp => h.now p (hs.subset hp), h.sure, h.len, h.upto, h.keys.sublist (hs.map _), h.keysS, h.inj.sublist (hs.map _), h.injS, fun q hq => h.named q (hs.subset hq), h.namedS, h.manyS⟩
theorem mdel_sub {α : Type} (L : List (ByteArray × α)) (s : ByteArray) : (mdel L s).Sublist L := List.filter_sublist
theorem removed_ok {D : DiskSt} (h : DiskOk D) (name : ByteArray) : DiskOk { D with now := mdel D.now name } := sub_ok h (mdel_sub _ _)
theorem names_ok {D : DiskSt} (h : DiskOk D) : DiskOk { D with sure := D.now } := ⟨h.pos, h.most, h.many, h.now, h.now, h.len, h.upto, h.keys, h.keys, h.inj, h.inj, h.named, h.named, h.many⟩
theorem mem_of_mget {α : Type} {L : List (ByteArray × α)} {s : ByteArray} {v : α} (h : mget L s = some v) : (s, v) ∈ L := by
  unfold mget at h
  cases hf : L.find? (fun p => decide (p.1 = s)) with
  | none => rw [hf] at h; cases h
  | some x =>
    rw [hf] at h
    injection h with h
    have h1 := List.mem_of_find?_eq_some hf
    have h2 := List.find?_some hf
    rw [← h, ← of_decide_eq_true h2]; exact h1
theorem mput_ids {L : Dir} {s : ByteArray} {g : Nat} (hk : (L.map (·.1)).Nodup) (hi : (L.map (·.2)).Nodup) (hg : g ∉ L.map (·.2)) : ((mput L s g).map (·.1)).Nodup ∧ ((mput L s g).map (·.2)).Nodup := by
  unfold mput
  split
  · constructor
    · have e : (L.map fun p => if p.1 = s then (p.1, g) else p).map (·.1) = L.map (·.1) := by
        rw [List.map_map]; apply List.map_congr_left; intro p _; simp only [Function.comp]; split <;> rfl
      rw [e]; exact hk
    · rename_i hany
      clear hany
      induction L with
      | nil => simp
      | cons p l ih =>
        simp only [List.map_cons, List.nodup_cons, List.mem_cons, not_or] at hk hi hg
        have ih := ih hk.2 hi.2 hg.2
        simp only [List.map_cons, List.nodup_cons]
        refine ⟨?_, ih⟩
        by_cases hp : p.1 = s
        · rw [if_pos hp]
          intro hm
          rw [List.map_map] at hm
          obtain ⟨q, hq, hqe⟩ := List.mem_map.1 hm
          simp only [Function.comp] at hqe
          have hqs : q.1 ≠ s := fun e => hk.1 (by rw [hp, ← e]; exact List.mem_map_of_mem hq)
          rw [if_neg hqs] at hqe
          exact hg.2 (by rw [← hqe]; exact List.mem_map_of_mem hq)
        · rw [if_neg hp]
          intro hm
          rw [List.map_map] at hm
          obtain ⟨q, hq, hqe⟩ := List.mem_map.1 hm
          simp only [Function.comp] at hqe
          split at hqe
          · exact hg.1 hqe
          · exact hi.1 (by rw [← hqe]; exact List.mem_map_of_mem hq)
  · rename_i hany
    have hno : ∀ p ∈ L, p.1 ≠ s := fun p hp e => hany (List.any_eq_true.2 ⟨p, hp, by simp [e]⟩)
    rw [List.map_append, List.map_append, List.nodup_append, List.nodup_append]
    refine ⟨⟨hk, by simp, fun a ha b hb e => ?_⟩, hi, by simp, fun a ha b hb e => ?_⟩
    · simp only [List.map_cons, List.map_nil, List.mem_singleton] at hb
      obtain ⟨q, hq, hqa⟩ := List.mem_map.1 ha
      exact hno q hq (by rw [hqa, e, hb])
    · simp only [List.map_cons, List.map_nil, List.mem_singleton] at hb
      exact hg (by rw [← hb, ← e]; exact ha)
theorem mput_length_le {α : Type} (L : List (ByteArray × α)) (s : ByteArray) (v : α) : (mput L s v).length ≤ L.length + 1 := by
  unfold mput; split <;> simp
theorem mem_mput {α : Type} {L : List (ByteArray × α)} {s : ByteArray} {v : α} {q : ByteArray × α} (h : q ∈ mput L s v) : q ∈ L ∨ q = (s, v) := by
  unfold mput at h
  split at h
  · obtain ⟨p, hp, rfl⟩ := List.mem_map.1 h
    by_cases hs : p.1 = s
    · rw [if_pos hs]; exact .inr (by rw [hs])
    · rw [if_neg hs]; exact .inl hp
  · rcases List.mem_append.1 h with h | h
    · exact .inl h
    · exact .inr (List.mem_singleton.1 h)
theorem mdel_length_lt {α : Type} {L : List (ByteArray × α)} {s : ByteArray} {v : α} (h : mget L s = some v) : (mdel L s).length < L.length := by
  have := mem_of_mget h
  unfold mdel
  refine List.length_filter_lt_length_iff_exists.2 ⟨(s, v), this, by simp⟩
/-- The file at from has the name to. -/
def renamed (D : DiskSt) (from_ to : ByteArray) (g : Nat) : DiskSt := { D with now := mput (mdel D.now from_) to g }
theorem renamed_ok {D : DiskSt} (h : DiskOk D) {a b : ByteArray} {g : Nat} (hn : nameOk b = true) (hg : mget D.now a = some g) : DiskOk (renamed D a b g) := by
  have h1 := removed_ok h a
  have hnot : g ∉ (mdel D.now a).map (·.2) := by
    intro hm
    obtain ⟨q, hq, hqg⟩ := List.mem_map.1 hm
    have hqL : q ∈ D.now := (mdel_sub _ _).subset hq
    have hqa : q.1 ≠ a := by
      have := (List.mem_filter.1 hq).2
      simpa using this
    have hag := mem_of_mget hg
    -- two entries with one file
    obtain ⟨i, hi, hie⟩ := List.mem_iff_getElem.1 hqL
    obtain ⟨j, hj, hje⟩ := List.mem_iff_getElem.1 hag
    have hij : i = j := by
      have := List.getElem_inj (xs := D.now.map (·.2)) (h₀ := by simpa using hi) (h₁ := by simpa using hj) h.inj
      simp only [List.getElem_map, hie, hje] at this
      exact this.1 hqg
    subst hij
    rw [hie] at hje
    exact hqa (by rw [hje])
  obtain ⟨k1, k2⟩ := mput_ids (s := b) h1.keys h1.inj hnot
  have hlt := mdel_length_lt hg
  have hmany := h.many
  refine ⟨h.pos, h.most, by show (mput (mdel D.now a) b g).length ≤ 64; have := mput_length_le (mdel D.now a) b g; omega, fun q hq => ?_, h.sure, h.len, h.upto, k1, h.keysS, k2, h.injS, fun q hq => ?_, h.namedS, h.manyS⟩
  · rcases mem_mput hq with hq | rfl
    · exact h1.now q hq
    · exact h.now (a, g) (mem_of_mget hg)
  · rcases mem_mput hq with hq | rfl
    · exact h1.named q hq
    · exact hn
theorem file_new {w w0 : World} {S F S2 : Asn} {T : FileTab} {g : Nat} (m : Mod w w0 S) [t1 : Take S (blk g) (.cells #[.int .i64 0, .slice none 0 0] 79 (0, 0)) F] [t2 : Take F filesA T S2] : Mod w w0 (filesA ((g, ⟨[], 0⟩) :: T) * S2) := by
  have e : S = blk g (.cells #[.int .i64 0, .slice none 0 0] 79 (0, 0)) * (filesA T * S2) := by rw [t1.eq, t2.eq]
  rw [e] at m
  have m1 : Mod w w0 (fileA g ⟨[], 0⟩ * (filesA T * S2)) := by
    have : Mod w w0 ((blk g (.cells #[.int .i64 0, .slice none 0 0] 79 (0, 0)) * rowA 5 1 (.slice none 0 0) 0 []) * (filesA T * S2)) := by
      refine Mod.conv (S := blk g (.cells #[.int .i64 0, .slice none 0 0] 79 (0, 0)) * (filesA T * S2)) (m := m) fun x hx => sep_imp (fun y hy => ?_) hx
      exact ⟨y, Hp.none, fun k => .inr rfl, by funext k; simp [Hp.join, Hp.none], hy, rowA_nil _ _⟩
    exact Mod.shut (G := fun v : Value => blk g (.cells #[.int .i64 0, v] 79 (0, 0)) * rowA 5 1 v 0 []) (.slice none 0 0) (m := this)
  rw [← sep_assoc] at m1
  exact m1
end Go.Proofs.YtmpgnnjhgjfgaaaDoor
