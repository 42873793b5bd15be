/- What a manifest knows, in plain lists: edits folded: definitions and plain lemmas; the conditions are in each theorem.
What a manifest knows in the heap; the walks of whole, does and Files: contracts over the small separation logic; the conditions are in each theorem.
A manifest's invariant, in plain lists, and how it goes on: definitions and plain lemmas; the conditions are in each theorem. -/
import Derived.Test.YtmhlebpchllpbaaGreatDoorMfAG
import Derived.Test.YtmhlebpchllpbaaGreatDoorEdBG
import Derived.Test.YtmhlebpchllpbaaGreatDoorEdAG
import Derived.Test.YtmhlebpchllpbaaGreatDoorMfBG
import Derived.Deep.RegionWith
namespace Go.Proofs.YtmhlebpchllpbaaGreatDoor
open Go Go.Sl
/-- What a manifest knows. -/
structure MKnow where
  files : List FileV
  journal : Nat
  next : Nat
  seq : Nat
def noKnow : MKnow := ⟨[], 0, 0, 0⟩
def doK (k : MKnow) (x : EditV) : Option MKnow := (doE k.files x).map fun l => ⟨l, x.journal, x.next, x.seq⟩
def foldK : MKnow → List EditV → Option MKnow
  | k, [] => some k
  | k, x :: l => match doK k x with
    | none => none
    | some k' => foldK k' l
theorem foldK_snoc : ∀ (l : List EditV) (k : MKnow) (x : EditV), foldK k (l ++ [x]) = (foldK k l).bind fun k' => doK k' x
  | [], k, x => by simp only [List.nil_append, foldK, Option.bind_some]; cases doK k x <;> rfl
  | y :: l, k, x => by
    rw [List.cons_append]
    simp only [foldK]
    cases doK k y with
    | none => rfl
    | some k' => exact foldK_snoc l k' x
theorem foldK_take {k : MKnow} {l : List EditV} {z : MKnow} (h : foldK k l = some z) (i : Nat) : ∃ z', foldK k (l.take i) = some z' := by
  induction l generalizing k i with
  | nil => exact ⟨k, by simp [foldK]⟩
  | cons x l ih =>
    cases i with
    | zero => exact ⟨k, rfl⟩
    | succ i =>
      simp only [List.take_succ_cons, foldK] at h ⊢
      cases hd : doK k x with
      | none => rw [hd] at h; cases h
      | some k' => rw [hd] at h; exact ih h i
def MKnow.whole (k : MKnow) : EditV := ⟨k.files, [], k.journal, k.next, k.seq⟩
structure KnowOk (k : MKnow) : Prop where
  fine : fineF k.files = true
  once : twiceF k.files = false
  sorted : sortFiles k.files = k.files
  nums : ∀ f ∈ k.files, f.num < 4294967296
  journal : k.journal < 4294967296
  next : k.next < 4294967296
  seq : k.seq < 18446744073709551616
theorem noKnow_ok : KnowOk noKnow := ⟨rfl, rfl, by show sortFiles [] = []; simp [sortFiles], by simp [noKnow], by decide, by decide, by decide⟩
theorem dropNums_sub : ∀ (ns : List Nat) {l l' : List FileV}, dropNums l ns = some l' → l'.Sublist l
  | [], l, l', h => by simp only [dropNums, Option.some.injEq] at h; subst h; exact List.Sublist.refl _
  | v :: vs, l, l', h => by
    simp only [dropNums] at h
    split at h
    · cases h
    · exact (dropNums_sub vs h).trans (List.eraseIdx_sublist _ _)
theorem sortFiles_mem {l : List FileV} {f : FileV} : f ∈ sortFiles l ↔ f ∈ l := (List.mergeSort_perm l leF).mem_iff
theorem sortFiles_length (l : List FileV) : (sortFiles l).length = l.length := (List.mergeSort_perm l leF).length_eq
theorem twiceF_perm {l l' : List FileV} (h : l.Perm l') : twiceF l = twiceF l' := by
  unfold twiceF
  congr 1
  exact decide_eq_decide.2 (h.map (·.num)).nodup_iff
theorem sortFiles_same {l : List FileV} (h : l.Pairwise fun a b => leF a b = true) : sortFiles l = l := List.mergeSort_of_pairwise h
theorem sortFiles_idem (l : List FileV) : sortFiles (sortFiles l) = sortFiles l := sortFiles_same (sortFiles_sorted l)
theorem fineF_iff (l : List FileV) : fineF l = true ↔ ∀ f ∈ l, mayF f = true := by unfold fineF; exact List.all_eq_true
theorem doE_some {l l' : List FileV} {x : EditV} (h : doE l x = some l') : fineF l = true ∧ fineF x.added = true ∧ twiceF l = false ∧ ∃ l1, dropNums l x.removed = some l1 ∧ twiceF (l1 ++ x.added) = false ∧ l' = sortFiles (l1 ++ x.added) := by
  unfold doE at h
  split at h
  · cases h
  rename_i h0
  simp only [not_or, Bool.not_eq_false, Bool.not_eq_true] at h0
  split at h
  · cases h
  rename_i l1 h1
  split at h
  · cases h
  rename_i h2
  injection h with h
  exact ⟨h0.1, h0.2.1, h0.2.2, l1, h1, by simpa using h2, h.symm⟩
theorem doE_len {l l' : List FileV} {x : EditV} (h : doE l x = some l') : l'.length ≤ l.length + x.added.length := by
  obtain ⟨_, _, _, l1, h1, _, rfl⟩ := doE_some h
  rw [sortFiles_length, List.length_append]
  have := (dropNums_sub _ h1).length_le
  omega
structure EditSm (x : EditV) : Prop where
  nums : ∀ f ∈ x.added, f.num < 4294967296
  journal : x.journal < 4294967296
  next : x.next < 4294967296
  seq : x.seq < 18446744073709551616
theorem doK_ok {k k' : MKnow} {x : EditV} (hk : KnowOk k) (hx : EditSm x) (h : doK k x = some k') : KnowOk k' ∧ k'.files.length ≤ k.files.length + x.added.length := by
  unfold doK at h
  obtain ⟨l, hl, rfl⟩ := Option.map_eq_some_iff.1 h
  refine ⟨?_, doE_len hl⟩
  obtain ⟨h1, h2, _, l1, h4, h5, rfl⟩ := doE_some hl
  have hs := dropNums_sub _ h4
  refine ⟨?_, ?_, sortFiles_idem _, ?_, hx.journal, hx.next, hx.seq⟩
  · rw [fineF_iff] at *
    intro f hf
    rcases List.mem_append.1 (sortFiles_mem.1 hf) with hf | hf
    · exact h1 f (hs.subset hf)
    · exact h2 f hf
  · rw [← h5]; exact twiceF_perm (List.mergeSort_perm _ _)
  · intro f hf
    rcases List.mem_append.1 (sortFiles_mem.1 hf) with hf | hf
    · exact hk.nums f (hs.subset hf)
    · exact hx.nums f hf
theorem doK_whole {k : MKnow} (hk : KnowOk k) : doK noKnow k.whole = some k := by
  have e : doE [] k.whole = some k.files := by
    have h0 : ¬ (fineF ([] : List FileV) = false ∨ fineF k.whole.added = false ∨ twiceF ([] : List FileV) = true) := by
      rintro (h | h | h)
      · cases h
      · rw [show fineF k.whole.added = true from hk.fine] at h; cases h
      · cases h
    have h1 : dropNums ([] : List FileV) k.whole.removed = some [] := rfl
    have h2 : ([] : List FileV) ++ k.whole.added = k.files := rfl
    unfold doE
    rw [if_neg h0, h1]
    simp only [h2, hk.once, Bool.false_eq_true, if_false, hk.sorted]
  unfold doK
  show (doE [] k.whole).map _ = _
  rw [e]; rfl
theorem fold_whole {k : MKnow} (hk : KnowOk k) : foldK noKnow [k.whole] = some k := by
  simp only [foldK, doK_whole hk]
end Go.Proofs.YtmhlebpchllpbaaGreatDoor
namespace Go.Proofs.YtmhlebpchllpbaaGreatDoor
open Go.RowKit Go.Sl
attribute [local go_sem] cell_of cellAt_of frozen_of zero_names
def MKnow.nums (k : MKnow) : Nat × Nat × Nat := (k.journal, k.next, k.seq)
/-- The files' row, as Do and Clip leave it. -/
abbrev kfA (A : Option Addr) (c : Nat) (l : List FileV) : Asn := rowA 44 4 (.slice A l.length c) l.length (l.flatMap FileV.cells)
theorem kf_reads (A : Option Addr) (c : Nat) (l : List FileV) : ReadsFiles (kfA A c l) A l.length l := ⟨rfl, reads_rown (by decide)⟩
/-- The one record that whole hands out. -/
theorem one_rec {g len : Nat} {A : Option Addr} {c : Nat} {b : List UInt8} (hl : len = b.length) (hc : len ≤ c) : ReadsRecs (blk g (.cells #[.slice A len c] 63 (0, 0)) * rowA 5 1 (.slice A len c) len (u8s b)) (some ⟨g, 0, none⟩) 1 [b] := by
  subst hl
  refine ⟨rfl, [(A, c)], rfl, reads_lift (S := blk g (.cells #[.slice A b.length c] 63 (0, 0))) inferInstance (reads_blk rfl rfl), fun i h1 h2 => ?_⟩
  have hi : i = 0 := by simp at h1; omega
  subst hi
  exact ⟨reads_lift (S := rowA 5 1 (.slice A b.length c) b.length (u8s b)) inferInstance (Reads.row 5 A b.length c (u8s b)), hc⟩
set_option maxHeartbeats 4000000 in
theorem mWhole_spec (mp p : Nat) (j : Value) (num many : Nat) (A : Option Addr) (c : Nat) (k : MKnow) (w w0 : World) (F : Asn) (m : Mod w w0 (mfA mp p j num many (.slice A k.files.length k.files.length) k.nums * (kfA A c k.files * F))) (hk : KnowOk k) (hlen : k.files.length ≤ 1100000) :
    Calls Tryz.prog 32 #[ptr mp] w fun e w' => ∃ g R, e = .returned (.slice (some ⟨g, 0, none⟩) 1 1) ∧ ReadsRecs R (some ⟨g, 0, none⟩) 1 [editB k.whole] ∧ Mod w' w0 (R * (mfA mp p j num many (.slice A k.files.length k.files.length) k.nums * (kfA A c k.files * F))) := by
  obtain ⟨S0, hS0⟩ : ∃ S0, S0 = mfA mp p j num many (.slice A k.files.length k.files.length) k.nums * (kfA A c k.files * F) := ⟨_, rfl⟩
  have HS0 := Lib.hid hS0
  have rk : ReadsFiles S0 A k.files.length k.files := (kf_reads A c k.files).lift (by rw [hS0]; infer_instance)
  have HP := Lib.hid (fun (u : World) (S : Asn) (mu : Mod u w0 S) (s : Sub S S0) => ePut_spec ⟨A, k.files.length, none, 0⟩ k.whole u w0 S mu ⟨rk.lift s, ⟨rfl, reads_nil⟩, hk.nums, by simp [MKnow.whole], hlen, by simp [MKnow.whole], hk.journal, hk.next, hk.seq, Nat.le_refl _, Nat.le_refl _⟩)
  have hP2 : ∀ S e w', PutSays k.whole S w0 e w' → ∃ A c, e = .returned (.tuple #[.slice A (editB k.whole).length c, .int .i64 0]) ∧ Mod w' w0 (rowA 5 1 (.slice A (editB k.whole).length c) (editB k.whole).length (u8s (editB k.whole)) * S) := fun S e w' h => by
    rcases h with ⟨h, _⟩ | ⟨_, h⟩
    · rw [show fineF k.whole.added = true from hk.fine] at h; cases h
    · exact h
  have HP2 := Lib.hid hP2
  have hst : Has S0 mp (.cells #[ptr p, j, .int .u32 (num : Int), .int .i64 (many : Int), .slice A k.files.length k.files.length, .slice none 0 0, .slice none 0 0, .int .u32 (k.journal : Int), .int .u32 (k.next : Int), .int .u64 (k.seq : Int), .bool true] 59 (0, 0)) := by rw [hS0]; unfold mfA MKnow.nums; infer_instance
  rw [← hS0] at m ⊢
  clear hS0 rk hP2
  obtain ⟨b, hb⟩ : ∃ b, editB k.whole = b := ⟨_, rfl⟩
  rw [hb] at HP2 ⊢
  obtain ⟨z, hz⟩ : ∃ z, b.length = z := ⟨_, rfl⟩
  have Hz := Lib.hid hz
  rw [hz] at HP2
  clear hb hz
  go_enter Tryz.func32, Tryz.ntmps32
  go_wp2_with (go_at_call 30; refine (HP.out _ _ inferInstance inferInstance).mono ?_; intro e w1 hsay; obtain ⟨A1, c1, rfl, m1⟩ := HP2.out _ _ _ hsay; clear hsay)
  have hc1 : z ≤ c1 := row_le (m := m1)
  go_ret
  refine ⟨w1.heap.size, _, rfl, one_rec (A := A1) (b := b) Hz.out.symm hc1, ?_⟩
  have m2 : Mod (w1.alloc (.cells #[.slice A1 z c1] 63)) w0 _ := inferInstance
  exact Mod.drop (A := blk w.heap.size (.cells #[.slice A k.files.length k.files.length, .slice none 0 0, .int .u32 (k.journal : Int), .int .u32 (k.next : Int), .int .u64 (k.seq : Int)] 39 (0, 0))) (m := Mod.to (m := m2) (by ac_rfl))
set_option maxHeartbeats 4000000 in
theorem does_turn {w w0 : World} {R : Asn} {mp t : Nat} {a0 a1 a2 a3 a4 a5 a6 a7 a8 a9 a10 : Value} (m : Mod w w0 (blk mp (.cells #[a0, a1, a2, a3, a4, a5, a6, a7, a8, a9, a10] t (0, 0)) * R)) (v4 v5 v6 v7 v8 v9 u5 u6 : Value) :
    Mod ((((((((w.setCell ⟨mp, 4, none⟩ v4).setCell ⟨mp, 5, none⟩ v5).setCell ⟨mp, 6, none⟩ v6).setCell ⟨mp, 7, none⟩ v7).setCell ⟨mp, 8, none⟩ v8).setCell ⟨mp, 9, none⟩ v9).setCell ⟨mp, 5, none⟩ u5).setCell ⟨mp, 6, none⟩ u6) w0
      (blk mp (.cells #[a0, a1, a2, a3, v4, u5, u6, v7, v8, v9, a10] t (0, 0)) * R) := by
  have m1 := Mod.setCells (m := m) (g := mp) (i := 4) v4 (t := ⟨rfl⟩)
  have m2 := Mod.setCells (m := m1) (g := mp) (i := 5) v5 (t := ⟨rfl⟩)
  have m3 := Mod.setCells (m := m2) (g := mp) (i := 6) v6 (t := ⟨rfl⟩)
  have m4 := Mod.setCells (m := m3) (g := mp) (i := 7) v7 (t := ⟨rfl⟩)
  have m5 := Mod.setCells (m := m4) (g := mp) (i := 8) v8 (t := ⟨rfl⟩)
  have m6 := Mod.setCells (m := m5) (g := mp) (i := 9) v9 (t := ⟨rfl⟩)
  have m7 := Mod.setCells (m := m6) (g := mp) (i := 5) u5 (t := ⟨rfl⟩)
  exact Mod.setCells (m := m7) (g := mp) (i := 6) u6 (t := ⟨rfl⟩)
theorem does_shape {w w0 : World} {A B C D F : Asn} (m : Mod w w0 (A * (B * (C * (D * F))))) : Mod w w0 (C * (A * F)) := Mod.drop (A := B * D) (m := Mod.to (m := m) (by ac_rfl))
/-- What does leaves. -/
def DoesSays (mp p : Nat) (j : Value) (num many : Nat) (A : Option Addr) (c : Nat) (k : MKnow) (w0 : World) (F : Asn) (e : Ending) (w' : World) : Option MKnow → Prop
  | none => e = .returned (.int .i64 1) ∧ Mod w' w0 (mfA mp p j num many (.slice A k.files.length k.files.length) k.nums * (kfA A c k.files * F))
  | some k' => e = .returned (.int .i64 0) ∧ ∃ A' c', k'.files.length ≤ c' ∧ Mod w' w0 (mfA mp p j num many (.slice A' k'.files.length k'.files.length) k'.nums * (kfA A' c' k'.files * F))
set_option maxRecDepth 4000 in
set_option maxHeartbeats 8000000 in
theorem mDoes_spec (mp p : Nat) (j : Value) (num many : Nat) (A : Option Addr) (c : Nat) (k : MKnow) (L : EditL) (x : EditV) (w w0 : World) (F : Asn) (m : Mod w w0 (mfA mp p j num many (.slice A k.files.length k.files.length) k.nums * (kfA A c k.files * F))) (r : ReadsEdit F L x) (hlen : k.files.length ≤ 100000000) :
    Calls Tryz.prog 27 #[ptr mp, .agg (editCells L x)] w fun e w' => DoesSays mp p j num many A c k w0 F e w' (doK k x) := by
  obtain ⟨aA, aC, rA, rC⟩ := L
  obtain ⟨fa, rm, jn, nx, sq⟩ := x
  obtain ⟨S0, hS0⟩ : ∃ S0, S0 = mfA mp p j num many (.slice A k.files.length k.files.length) k.nums * (kfA A c k.files * F) := ⟨_, rfl⟩
  have rk : ReadsFiles S0 A k.files.length k.files := (kf_reads A c k.files).lift (by rw [hS0]; infer_instance)
  have sF : Sub S0 F := by rw [hS0]; infer_instance
  have HD := Lib.hid (fun (u : World) (S : Asn) (mu : Mod u w0 S) (s : Sub S S0) => eDo_spec A k.files.length k.files.length k.files aA fa.length aC rA rm.length rC fa rm jn nx sq u w0 S mu (rk.lift s) hlen ((r.added.lift sF).lift s) r.lenA ((r.removed.lift sF).lift s) r.lenR)
  show Calls Tryz.prog _ #[_, .agg #[.slice aA fa.length aC, .slice rA rm.length rC, .int .u32 (jn : Int), .int .u32 (nx : Int), .int .u64 (sq : Int)]] _ _
  obtain ⟨z, hz⟩ : ∃ z, doE k.files ⟨fa, rm, jn, nx, sq⟩ = z := ⟨_, rfl⟩
  rw [hz] at HD
  have hdk : doK k ⟨fa, rm, jn, nx, sq⟩ = z.map fun l => ⟨l, jn, nx, sq⟩ := by unfold doK; rw [hz]
  rw [hdk]
  clear hz hdk r rk sF
  have hst : Has S0 mp (.cells #[ptr p, j, .int .u32 (num : Int), .int .i64 (many : Int), .slice A k.files.length k.files.length, .slice none 0 0, .slice none 0 0, .int .u32 (k.journal : Int), .int .u32 (k.next : Int), .int .u64 (k.seq : Int), .bool true] 59 (0, 0)) := by rw [hS0]; unfold mfA MKnow.nums; infer_instance
  rw [← hS0] at m
  have HS0 := Lib.hid hS0
  clear hS0
  cases z with
  | none =>
    go_enter Tryz.func27, Tryz.ntmps27
    go_wp2_with fail
    go_region_with (go_at_call 31; refine (HD.out _ _ inferInstance inferInstance).mono ?_; rintro e w1 ⟨rfl, m1⟩)
    all_goals (go_wp2_with fail)
    all_goals go_ret
    all_goals exact ⟨rfl, by rw [← HS0.out]; exact Mod.keep m1⟩
  | some l' =>
    go_enter Tryz.func27, Tryz.ntmps27
    go_wp2_with fail
    go_region_with (go_at_call 31; refine (HD.out _ _ inferInstance inferInstance).mono ?_; rintro e w1 ⟨A1, c1, rfl, hc1, m1⟩)
    all_goals (have m2 := m1; rw [HS0.out] at m2; unfold mfA at m2; clear m hst HD m1)
    all_goals (go_wp2_with fail)
    all_goals go_ret
    all_goals exact ⟨rfl, A1, c1, hc1, does_turn (does_shape m2) _ _ _ _ _ _ _ _⟩
/-- Files: a copy of its own. -/
theorem mFiles_spec (mp p : Nat) (j : Value) (num many : Nat) (A : Option Addr) (c : Nat) (k : MKnow) (w w0 : World) (F : Asn) (m : Mod w w0 (mfA mp p j num many (.slice A k.files.length k.files.length) k.nums * (kfA A c k.files * F))) (hlen : k.files.length ≤ 100000000) :
    Calls Tryz.prog 8 #[ptr mp] w fun e w' => ∃ A' c', e = .returned (.slice A' k.files.length k.files.length) ∧ k.files.length ≤ c' ∧ Mod w' w0 (kfA A' c' k.files * (mfA mp p j num many (.slice A k.files.length k.files.length) k.nums * (kfA A c k.files * F))) := by
  obtain ⟨S0, hS0⟩ : ∃ S0, S0 = mfA mp p j num many (.slice A k.files.length k.files.length) k.nums * (kfA A c k.files * F) := ⟨_, rfl⟩
  have rk : ReadsFiles S0 A k.files.length k.files := (kf_reads A c k.files).lift (by rw [hS0]; infer_instance)
  have hst : Has S0 mp (.cells #[ptr p, j, .int .u32 (num : Int), .int .i64 (many : Int), .slice A k.files.length k.files.length, .slice none 0 0, .slice none 0 0, .int .u32 (k.journal : Int), .int .u32 (k.next : Int), .int .u64 (k.seq : Int), .bool true] 59 (0, 0)) := by rw [hS0]; unfold mfA MKnow.nums; infer_instance
  rw [← hS0] at m ⊢
  have HC := Lib.hid (fun (u : World) (mu : Mod u w0 S0) => cloneF_spec A k.files.length k.files.length k.files u w0 S0 mu rk hlen)
  clear rk hS0
  obtain ⟨lf, hlf⟩ : ∃ lf, k.files.length = lf := ⟨_, rfl⟩
  rw [hlf] at hst HC ⊢
  unfold kfA
  rw [hlf]
  have HLF := Lib.hid hlf
  clear hlf hlen
  go_enter Tryz.func8, Tryz.ntmps8
  have flag := True.intro
  go_wp2_with first
    | (go_at_call 29; clear flag; refine (HC.out _ inferInstance).mono ?_; rintro e w1 ⟨A1, c1, rfl, m1⟩)
  obtain ⟨q1, q2, q3, q4⟩ := row_shape m1
  go_wp2_with (go_at_call 28; refine (clipF_spec A1 lf c1 q1 q2 q3 q4 _).mono ?_; rintro e w2 ⟨rfl, rfl⟩)
  go_ret
  exact ⟨A1, c1, rfl, q3, m1⟩
end Go.Proofs.YtmhlebpchllpbaaGreatDoor
namespace Go.Proofs.YtmhlebpchllpbaaGreatDoor
open Go Go.Sl
abbrev recsB (xs : List EditV) : List (List UInt8) := xs.map editB
structure MInv (D : DiskSt) (num : Nat) (xs : List EditV) (k : MKnow) : Prop where
  disk : MAt D num (recsB xs)
  fold : foldK noKnow xs = some k
  know : KnowOk k
  each : ∀ x ∈ xs, EditOk x
  head : ∀ x ∈ xs, (editB x).length ≤ 65536
  tail : ∀ x ∈ xs.tail, (editB x).length ≤ 32768
  only : ∀ q ∈ D.now, ownB q.1 = true
  onlyS : ∀ q ∈ D.sure, ownB q.1 = true
theorem mget_some_of {L : Dir} {s : ByteArray} {g : Nat} (h : (s, g) ∈ L) : ∃ g', mget L s = some g' := by
  cases hm : mget L s with
  | some g' => exact ⟨g', rfl⟩
  | none => exact absurd rfl (not_mget hm (s, g) h)
theorem only_begun {D D' : DiskSt} (h : ∀ q ∈ D.now, ownB q.1 = true) (ho : ∀ s, ownB s = false → mget D'.now s = mget D.now s) : ∀ q ∈ D'.now, ownB q.1 = true := by
  intro q hq
  cases hb : ownB q.1 with
  | true => rfl
  | false =>
    obtain ⟨g', hg'⟩ := mget_some_of (s := q.1) (g := q.2) hq
    rw [ho _ hb] at hg'
    have := h _ (mem_of_mget hg')
    rw [hb] at this; cases this
theorem own_two {D : DiskSt} (hok : DiskOk D) {num : Nat} (h : ∀ q ∈ D.now, ownB q.1 = true) (h2 : ∀ q ∈ D.now, ownB q.1 = true → q.1 = nM ∨ q.1 = mname num) : D.now.length ≤ 2 := by
  have hsub : (D.now.map (·.1)) ⊆ [nM, mname num] := by
    intro s hs
    obtain ⟨q, hq, rfl⟩ := List.mem_map.1 hs
    rcases h2 q hq (h q hq) with e | e <;> simp [e]
  have := hok.keys.length_le_of_subset hsub
  simpa using this
theorem total_two {T : FileTab} : ∀ {L : Dir} {a b : ByteArray} {g h : Nat} {f f' : FileSt}, (L.map (·.1)).Nodup → mget L a = some g → mget L b = some h → a ≠ b → fget T g = some f → fget T h = some f' → (∀ q ∈ L, q.1 = a ∨ q.1 = b) → total T L ≤ f.bytes.length + f'.bytes.length := by
  intro L a b g h f f' hn ha hb hab hf hf' hall
  have h1 := total_mdel T a g hn ha
  have hn2 : ((mdel L a).map (·.1)).Nodup := hn.sublist ((mdel_sub L a).map _)
  have hb2 : mget (mdel L a) b = some h := by rw [mget_mdel, if_neg (fun e => hab e.symm)]; exact hb
  have h2 := total_mdel T b h hn2 hb2
  have h3 : mdel (mdel L a) b = [] := by
    unfold mdel
    rw [List.filter_filter, List.filter_eq_nil_iff]
    intro q hq
    rcases hall q hq with e | e <;> simp [e]
  rw [h3] at h2
  rw [hf] at h1
  rw [hf'] at h2
  simp [total] at h1 h2
  omega
theorem MInv.two {D : DiskSt} {num : Nat} {xs : List EditV} {k : MKnow} (h : MInv D num xs k) (hok : DiskOk D) : D.now.length ≤ 2 := own_two hok h.only h.disk.own
theorem MInv.used {D : DiskSt} {num : Nat} {xs : List EditV} {k : MKnow} (h : MInv D num xs k) (hok : DiskOk D) : total D.files D.now ≤ (mname num).size + (journal [] (recsB xs)).length := by
  obtain ⟨gm, gj, a1, a2, a3, a4, _, _⟩ := h.disk.ex
  have := total_two hok.keys a1 a2 (fun e => name_not_M num e.symm) a3 a4 (fun q hq => h.disk.own q hq (h.only q hq))
  simpa [show (mname num).data.toList.length = (mname num).size from Array.length_toList] using this
theorem MInv.jlen {D : DiskSt} {num : Nat} {xs : List EditV} {k : MKnow} (h : MInv D num xs k) (hok : DiskOk D) : (journal [] (recsB xs)).length ≤ 1048576 := by
  obtain ⟨gm, gj, a1, a2, a3, a4, _, _⟩ := h.disk.ex
  exact hok.len _ (mem_of_fget _ _ _ a4)
theorem wholeOk {k : MKnow} (hk : KnowOk k) (hl : k.files.length ≤ 1100000) : EditOk k.whole :=
  ⟨hk.fine, hk.nums, by simp [MKnow.whole], by show k.files.length < _; omega, by simp [MKnow.whole], hk.journal, hk.next, hk.seq⟩
/-- Behind a begin that went well. -/
theorem MInv.begun {D : DiskSt} {num g1 g2 : Nat} {xs : List EditV} {k : MKnow} (h : MInv D num xs k) (hl : k.files.length ≤ 1100000) (hsm : ∀ r ∈ [editB k.whole], r.length ≤ 65536)
    (h1 : fget D.files g1 = none) (h2 : fget ((g1, (⟨journal [] [editB k.whole], (journal [] [editB k.whole]).length⟩ : FileSt)) :: D.files) g2 = none) :
    MInv (clearD (begD D (mname (num + 1)) (journal [] [editB k.whole]) g1 g2 7) (mname (num + 1))) (num + 1) [k.whole] k := by
  obtain ⟨q1, _, q3⟩ := begun_at (D := D) (num := num + 1) (rs := [editB k.whole]) h1 h2
  exact ⟨q1, fold_whole h.know, h.know, fun x hx => (by rw [List.mem_singleton] at hx; subst hx; exact wholeOk h.know hl), fun x hx => (by rw [List.mem_singleton] at hx; subst hx; exact hsm _ (List.mem_singleton.2 rfl)), fun x hx => (by cases hx), only_begun h.only q3, only_begun h.only q3⟩
theorem MInv.failed {D D' : DiskSt} {num : Nat} {xs : List EditV} {k : MKnow} (h : MInv D num xs k) (o : Over D D') (h1 : D'.now = D.now) (h2 : D'.sure = D.now) : MInv D' num xs k :=
  ⟨failed_at h.disk o h1 h2, h.fold, h.know, h.each, h.head, h.tail, by rw [h1]; exact h.only, by rw [h2]; exact h.only⟩
theorem nodup_map_inj {α β : Type} {f : α → β} {l : List α} (h : (l.map f).Nodup) {a b : α} (ha : a ∈ l) (hb : b ∈ l) (e : f a = f b) : a = b := by
  obtain ⟨i, hi, rfl⟩ := List.mem_iff_getElem.1 ha
  obtain ⟨j, hj, rfl⟩ := List.mem_iff_getElem.1 hb
  have h1 := List.getElem_inj (h₀ := by simpa using hi) (h₁ := by simpa using hj) h
  simp only [List.getElem_map] at h1
  have hij := h1.1 e
  subst hij
  rfl
/-- Behind an edit that went into the journal, surely. -/
theorem MInv.added {D : DiskSt} {num gj : Nat} {xs : List EditV} {k k' : MKnow} {x : EditV} (h : MInv D num xs k) (hinj : (D.now.map (·.2)).Nodup) (hx : EditOk x) (hd : doK k x = some k') (hl : (editB x).length ≤ 32768) (hg : mget D.now (mname num) = some gj) (hf : fget D.files gj = some ⟨journal [] (recsB xs), (journal [] (recsB xs)).length⟩) :
    MInv { D with files := fset D.files gj ⟨journal [] (recsB (xs ++ [x])), (journal [] (recsB (xs ++ [x]))).length⟩ } num (xs ++ [x]) k' := by
  obtain ⟨gm, gj', a1, a2, a3, a4, a5, a6⟩ := h.disk.ex
  have e : gj' = gj := by rw [a2] at hg; exact Option.some.inj hg
  subst e
  have hne : gm ≠ gj' := fun e => by
    subst e
    have := nodup_map_inj (f := (·.2)) hinj (mem_of_mget a1) (mem_of_mget a2) rfl
    exact name_not_M num (congrArg Prod.fst this).symm
  refine ⟨⟨⟨gm, gj', a1, a2, ?_, ?_, a5, a6⟩, h.disk.own, h.disk.ownS⟩, ?_, (doK_ok h.know ⟨hx.nums, hx.journal, hx.next, hx.seq⟩ hd).1, ?_, ?_, ?_, h.only, h.onlyS⟩
  · show fget (fset D.files gj' _) gm = _
    rw [fget_fset_other _ _ _ _ hne]; exact a3
  · show fget (fset D.files gj' _) gj' = _
    exact fget_fset_same _ _ _ _ a4
  · rw [foldK_snoc, h.fold]; exact hd
  · intro y hy
    rcases List.mem_append.1 hy with hy | hy
    · exact h.each y hy
    · rw [List.mem_singleton] at hy; subst hy; exact hx
  · intro y hy
    rcases List.mem_append.1 hy with hy | hy
    · exact h.head y hy
    · rw [List.mem_singleton] at hy; subst hy; omega
  · intro y hy
    cases xs with
    | nil => cases hy
    | cons z xs =>
      rw [List.cons_append, List.tail_cons, List.mem_append] at hy
      rcases hy with hy | hy
      · exact h.tail y hy
      · rw [List.mem_singleton] at hy; subst hy; exact hl
/-- A roomy disk: nothing fails there. -/
theorem MInv.short {D : DiskSt} {num : Nat} {xs : List EditV} {k : MKnow} (h : MInv D num xs k) (hn : xs.length ≤ 16) : (journal [] (recsB xs)).length ≤ 613200 := by
  cases xs with
  | nil => simp [recsB, journal]
  | cons z xs =>
    have e : journal [] (recsB (z :: xs)) = journal ([] ++ writ ([] : List UInt8).length true (editB z)) (recsB xs) := rfl
    rw [e]
    have h1 := journal_le2 (recsB xs) ([] ++ writ ([] : List UInt8).length true (editB z)) 32768 fun r hr => by
      obtain ⟨y, hy, rfl⟩ := List.mem_map.1 hr
      exact h.tail y hy
    have h2 := writ_le2 ([] : List UInt8).length true (editB z)
    have h3 := h.head z (List.mem_cons_self ..)
    rw [List.length_append] at h1
    have h4 : (recsB xs).length ≤ 15 := by simp only [recsB, List.length_map]; simp at hn; omega
    have h5 := Nat.mul_le_mul_right (11 * 32768 + 210) h4
    simp only [List.length_nil, List.nil_append] at h1 h2 ⊢
    omega
/-- Room enough for an edit: a disk of the greatest size; or a smaller one, with little on it. -/
def Roomy (D : DiskSt) (xs : List EditV) (x : EditV) : Prop := D.size = 8388608 ∨ (100000 ≤ D.size ∧ (journal [] (recsB xs)).length ≤ 20000 ∧ (editB x).length ≤ 5000)
theorem MInv.left {D : DiskSt} {num : Nat} {xs : List EditV} {k : MKnow} (h : MInv D num xs k) (hok : DiskOk D) (hnum : num < 4294967296) : D.size - 12 - (journal [] (recsB xs)).length ≤ leftOf D := by
  have h1 := h.used hok
  have h3 := name_small hnum
  unfold leftOf
  omega
theorem MInv.fits {D D0 : DiskSt} {num : Nat} {xs xs0 : List EditV} {k : MKnow} {x : EditV} (h : MInv D num xs k) (hok : DiskOk D) (hr : Roomy D0 xs0 x) (hs : D.size = D0.size) (hx : (journal [] (recsB xs0)).length ≤ 20000 → (journal [] (recsB xs)).length ≤ 20000) (hnum : num < 4294967296) (hn : xs.length ≤ 16) (hb : (editB x).length ≤ 32768) : fitsJ D (journal [] (recsB xs)).length (editB x) := by
  have h1 := h.left hok hnum
  have h2 := h.short hn
  have h3 := writ_le2 (journal [] (recsB xs)).length true (editB x)
  rcases hr with hr | ⟨r1, r2, r3⟩
  · exact ⟨by omega, by omega, by omega⟩
  · have := hx r2
    exact ⟨by omega, by omega, by omega⟩
theorem sum_flat (l : List FileV) (hl : ∀ f ∈ l, mayF f = true) (hn : ∀ f ∈ l, f.num < 4294967296) : (l.flatMap fileB).length ≤ l.length * 104 := by
  induction l with
  | nil => simp
  | cons f l ih =>
    rw [List.flatMap_cons, List.length_append, List.length_cons, Nat.add_mul]
    have h1 := fileB_len (hl f (List.mem_cons_self ..)) (hn f (List.mem_cons_self ..))
    have h2 := ih (fun g hg => hl g (List.mem_cons_of_mem _ hg)) fun g hg => hn g (List.mem_cons_of_mem _ hg)
    omega
theorem whole_len {k : MKnow} (hk : KnowOk k) (hl : k.files.length ≤ 30) : (editB k.whole).length ≤ 4000 := by
  have h1 := sum_flat k.files ((fineF_iff _).1 hk.fine) hk.nums
  have v1 := vint_ten (n := k.files.length) (by omega)
  have v2 := vint_ten (n := 0) (by omega)
  have v3 := vint_ten (n := k.journal) (by have := hk.journal; omega)
  have v4 := vint_ten (n := k.next) (by have := hk.next; omega)
  have v5 := vint_ten (n := k.seq) hk.seq
  unfold editB MKnow.whole
  simp only [List.length_append, List.flatMap_nil, List.length_nil]
  omega
theorem whole_jour {k : MKnow} (hk : KnowOk k) (hl : k.files.length ≤ 30) : (journal [] [editB k.whole]).length ≤ 4421 := by
  have h2 := whole_len hk hl
  have h3 := journal_le2 [editB k.whole] [] 4000 fun r hr => by rw [List.mem_singleton] at hr; subst hr; exact h2
  simp only [List.length_nil, List.length_singleton] at h3
  omega
theorem MInv.fine {D : DiskSt} {num : Nat} {xs : List EditV} {k : MKnow} {x : EditV} (h : MInv D num xs k) (hok : DiskOk D) (hr : Roomy D xs x) (hnum : num + 1 < 4294967296) (hl : k.files.length ≤ 30) : FineJ D (mname (num + 1)) [editB k.whole] := by
  have h1 := h.left hok (by omega)
  have h2 := whole_len h.know hl
  have h3 := whole_jour h.know hl
  have h4 := name_small hnum
  have h5 := h.jlen hok
  refine ⟨fun r hr => by rw [List.mem_singleton] at hr; subst hr; omega, by omega, ?_⟩
  rcases hr with hr | ⟨r1, r2, r3⟩
  · omega
  · omega
theorem kept_all (b : List UInt8) (n : Nat) (hn : n = b.length) : kept 0 ⟨b, n⟩ = ⟨b, n⟩ := by
  subst hn
  unfold kept
  simp
/-- Behind a failure. -/
theorem MInv.fail {D c : DiskSt} {num : Nat} {xs : List EditV} {k : MKnow} (h : MInv D num xs k) (l : LeftOf D 0 false c) : MInv c num xs k := by
  obtain ⟨gm, gj, a1, a2, a3, a4, a5, a6⟩ := h.disk.ex
  obtain ⟨g1, b1, b2⟩ := l.file (nM, gm) (mem_of_mget a5)
  obtain ⟨g2, b3, b4⟩ := l.file (mname num, gj) (mem_of_mget a6)
  have hl : ∀ s, s ∈ c.now.map (·.1) → ∃ g, (s, g) ∈ D.sure := fun s hs => by
    have := l.names.mem_iff.1 hs
    obtain ⟨q, hq, rfl⟩ := List.mem_map.1 this
    exact ⟨q.2, hq⟩
  have ho : ∀ q ∈ c.now, ownB q.1 = true := fun q hq => by
    obtain ⟨g, hg⟩ := hl q.1 (List.mem_map_of_mem hq)
    exact h.onlyS (q.1, g) hg
  have hw : ∀ q ∈ c.now, ownB q.1 = true → q.1 = nM ∨ q.1 = mname num := fun q hq hb => by
    obtain ⟨g, hg⟩ := hl q.1 (List.mem_map_of_mem hq)
    exact h.disk.ownS (q.1, g) hg hb
  refine ⟨⟨⟨g1, g2, b1, b3, ?_, ?_, by rw [l.both]; exact b1, by rw [l.both]; exact b3⟩, hw, by rw [l.both]; exact hw⟩, h.fold, h.know, h.each, h.head, h.tail, ho, by rw [l.both]; exact ho⟩
  · rw [b2]
    show some (keptOf D 0 gm) = _
    rw [keptOf_some a3, kept_all _ _ (by show (mname num).data.size = _; rw [Array.length_toList])]
  · rw [b4]
    show some (keptOf D 0 gj) = _
    rw [keptOf_some a4, kept_all _ _ rfl]
end Go.Proofs.YtmhlebpchllpbaaGreatDoor
