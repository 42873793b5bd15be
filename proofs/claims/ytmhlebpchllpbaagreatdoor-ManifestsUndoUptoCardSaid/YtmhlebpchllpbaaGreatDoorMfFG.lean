/- The edits of law 14's lives, in plain lists: plain lemmas.
Law 14's lives: it answers true: a contract over the small separation logic; the condition is in the theorem.
Undoing edits, in plain lists: plain lemmas; the conditions are in each theorem.
Edits that came in, read, and their bulk: plain lemmas; the conditions are in each theorem.
For the rows of laws that read the table of tens: plain lemmas; the conditions are in each theorem. -/
import Derived.Test.YtmhlebpchllpbaaGreatDoorMfDG
import Derived.Test.YtmhlebpchllpbaaGreatDoorMfEG
import Derived.Test.YtmhlebpchllpbaaGreatDoorMfCG
import Derived.Test.YtmhlebpchllpbaaGreatDoorEdAG
import Derived.Test.YtmhlebpchllpbaaGreatDoorArgsG
import Derived.Test.YtmhlebpchllpbaaGreatDoorRows
import Derived.Test.YtmhlebpchllpbaaGreatDoorMfAG
import Derived.Lib.LaidTab
import Derived.Stop.LaidErr
import Derived.Stop.Joined
import Derived.Deep.DeepHandedRow
import Derived.LaidMore
import Derived.Lay
import Derived.MakeChecks
namespace Go.Proofs.YtmhlebpchllpbaaGreatDoor
open Go Go.Sl
def lf1 : FileV := ⟨1, 0, ⟨#[97]⟩, ⟨#[98]⟩⟩
def lx1 : EditV := ⟨[lf1], [], 0, 2, 0⟩
def lx2 : EditV := ⟨[lf1], [], 0, 0, 0⟩
def lx3 : EditV := ⟨[], [9], 0, 0, 0⟩
def lk1 : MKnow := ⟨[lf1], 0, 2, 0⟩
theorem lf1_may : mayF lf1 = true := by
  unfold mayF lf1 keyOk leS
  simp only [ByteArray.toList_eq]
  decide
theorem lf1_fine : fineF [lf1] = true := by unfold fineF; simp [lf1_may]
theorem sort_one (f : FileV) : sortFiles [f] = [f] := by simp [sortFiles]
theorem lx1_do : doK noKnow lx1 = some lk1 := by
  unfold doK doE
  have h0 : ¬ (fineF noKnow.files = false ∨ fineF lx1.added = false ∨ twiceF noKnow.files = true) := by
    rintro (h | h | h)
    · cases h
    · rw [show fineF lx1.added = true from lf1_fine] at h; cases h
    · cases h
  rw [if_neg h0]
  have h1 : dropNums noKnow.files lx1.removed = some [] := rfl
  rw [h1]
  have h2 : ([] : List FileV) ++ lx1.added = [lf1] := rfl
  have h3 : ¬ twiceF [lf1] = true := by decide
  simp only [h2, if_neg h3, sort_one]
  rfl
theorem lx2_do : doK lk1 lx2 = none := by
  unfold doK doE
  split
  · rfl
  · have h1 : dropNums lk1.files lx2.removed = some [lf1] := rfl
    rw [h1]
    have h2 : [lf1] ++ lx2.added = [lf1, lf1] := rfl
    have h3 : twiceF [lf1, lf1] = true := by decide
    simp only [h2, h3, if_true]
    rfl
theorem lx3_do : doK lk1 lx3 = none := by
  unfold doK doE
  split
  · rfl
  · have h1 : dropNums lk1.files lx3.removed = none := by decide
    rw [h1]
    rfl
/-- How long an edit's bytes are, at most. -/
theorem edit_len {x : EditV} (hf : fineF x.added = true) (hn : ∀ f ∈ x.added, f.num < 4294967296) (hr : ∀ v ∈ x.removed, v < 4294967296) (hj : x.journal < 4294967296) (hx : x.next < 4294967296) (hq : x.seq < 18446744073709551616) (h1 : x.added.length < 18446744073709551616) (h2 : x.removed.length < 18446744073709551616) :
    (editB x).length ≤ 50 + 104 * x.added.length + 10 * x.removed.length := by
  have h3 := sum_flat x.added ((fineF_iff _).1 hf) hn
  have v1 := vint_ten h1
  have v2 := vint_ten h2
  have v3 := vint_ten (n := x.journal) (by omega)
  have v4 := vint_ten (n := x.next) (by omega)
  have v5 := vint_ten hq
  have h4 : ∀ (l : List Nat), (∀ v ∈ l, v < 4294967296) → (l.flatMap vint).length ≤ 10 * l.length := by
    intro l
    induction l with
    | nil => intro _; simp
    | cons v l ih =>
      intro h
      rw [List.flatMap_cons, List.length_append, List.length_cons]
      have a1 := vint_ten (n := v) (by have := h v (List.mem_cons_self ..); omega)
      have a2 := ih fun u hu => h u (List.mem_cons_of_mem _ hu)
      omega
  have h5 := h4 x.removed hr
  unfold editB
  simp only [List.length_append]
  omega
theorem lx1_len : (editB lx1).length ≤ 200 := by
  have := edit_len (x := lx1) lf1_fine (by simp [lx1, lf1]) (by simp [lx1]) (by decide) (by decide) (by decide) (by simp [lx1]) (by simp [lx1])
  simp [lx1] at this ⊢
  omega
theorem lx2_len : (editB lx2).length ≤ 200 := by
  have := edit_len (x := lx2) lf1_fine (by simp [lx2, lf1]) (by simp [lx2]) (by decide) (by decide) (by decide) (by simp [lx2]) (by simp [lx2])
  simp [lx2] at this ⊢
  omega
theorem lx3_len : (editB lx3).length ≤ 200 := by
  have := edit_len (x := lx3) rfl (by simp [lx3]) (by simp [lx3]) (by decide) (by decide) (by decide) (by simp [lx3]) (by simp [lx3])
  simp [lx3] at this ⊢
  omega
end Go.Proofs.YtmhlebpchllpbaaGreatDoor
namespace Go.Proofs.YtmhlebpchllpbaaGreatDoor
open Go.RowKit Go.Sl
attribute [local go_sem] cell_of cellAt_of frozen_of zero_names
/-- An edit with one file, in a block of its own. -/
theorem reads_one {g : Nat} {x : EditV} {f : FileV} {cells : Array Value} (hx : EditOk x) (ha : x.added = [f]) (hr : x.removed = []) (hc : cells.toList = f.cells) : ReadsEdit (blk g (.cells cells 44 (0, 0))) ⟨some ⟨g, 0, none⟩, 1, none, 0⟩ x := by
  refine ⟨⟨rfl, ?_⟩, ⟨rfl, ?_⟩, hx.nums, hx.nums2, by rw [ha]; simp, by rw [hr]; simp, hx.journal, hx.next, hx.seq, by rw [ha]; simp, by rw [hr]; simp⟩
  · rw [ha]
    exact reads_blk (by rw [hc]; simp) (by simp [FileV.cells])
  · rw [hr]; exact reads_nil
theorem lx1_ok : EditOk lx1 := ⟨lf1_fine, by simp [lx1, lf1], by simp [lx1], by simp [lx1], by simp [lx1], by decide, by decide, by decide⟩
theorem lx2_ok : EditOk lx2 := ⟨lf1_fine, by simp [lx2, lf1], by simp [lx2], by simp [lx2], by simp [lx2], by decide, by decide, by decide⟩
theorem lx3_reads (g : Nat) : ReadsEdit (blk g (.cells #[.int .u32 9] 36 (0, 0))) ⟨none, 0, some ⟨g, 0, none⟩, 1⟩ lx3 :=
  ⟨⟨rfl, reads_nil⟩, ⟨rfl, reads_blk rfl rfl⟩, by simp [lx3], by simp [lx3], by simp [lx3], by simp [lx3], by decide, by decide, by decide, Nat.le_refl _, Nat.le_refl _⟩
/-- Files, in Add's frame. -/
theorem files_at (mp p jj num many : Nat) (A : Option Addr) (c : Nat) (k : MKnow) (D : DiskSt) (en : Nat) (w w0 : World) (G : Asn) (m : Mod w w0 (manS mp p jj num many A c k D en G)) (hlen : k.files.length ≤ 100000000) :
    Calls Tryz.prog 8 #[ptr mp] w fun e w' => ∃ A' c', e = .returned (.slice A' k.files.length k.files.length) ∧ k.files.length ≤ c' ∧ Mod w' w0 (manS mp p jj num many A c k D en (kfA A' c' k.files * G)) := by
  rw [manS_mf] at m
  refine (mFiles_spec mp p (ptr jj) num many A c k w w0 _ m hlen).mono fun e w' ⟨A', c', h1, h2, h3⟩ => ⟨A', c', h1, h2, ?_⟩
  exact Mod.to (m := h3) (by unfold manS; ac_rfl)
theorem next_at (mp p jj num many : Nat) (A : Option Addr) (c : Nat) (k : MKnow) (D : DiskSt) (en : Nat) (w w0 : World) (G : Asn) (m : Mod w w0 (manS mp p jj num many A c k D en G)) :
    Calls Tryz.prog 12 #[ptr mp] w fun e w' => e = .returned (.int .u32 (k.next : Int)) ∧ Mod w' w0 (manS mp p jj num many A c k D en G) := by
  rw [manS_mf] at m ⊢
  exact mNext_spec mp p (ptr jj) num many _ k.nums w w0 _ m
set_option maxRecDepth 8000 in
set_option maxHeartbeats 16000000 in
theorem lives14_spec (w w0 : World) (F : Asn) (m : Mod w w0 F) (tab : TabIn F) : Calls Tryz.prog 5 #[] w fun e w' => e = .returned (.bool true) ∧ Mod w' w0 F := by
  have T := Lib.hid tab
  clear tab
  go_enter Tryz.func5, Tryz.ntmps5
  go_wp2_with (go_at_call 6; refine (new_ok 100000 _ w0 _ m (by omega) (by omega)).mono ?_; rintro e w1 ⟨p, rfl, m1⟩)
  refine (mOpen_new p 100000 w1 w0 F m1 T.out).mono ?_
  rintro e w2 (⟨mp, jj, D1, rfl, h1, hs1, m2⟩ | ⟨h, _⟩)
  · go_wp2_with fail
    have mA : Mod (w2.alloc (.cells #[.int .u32 1, .int .i64 0, .string ⟨#[97]⟩, .string ⟨#[98]⟩] 44)) w0 (manS mp p jj 1 ([] : List EditV).length none 0 noKnow D1 (journal [] (recsB [])).length (blk w2.heap.size (.cells #[.int .u32 1, .int .i64 0, .string ⟨#[97]⟩, .string ⟨#[98]⟩] 44 (0, 0)) * F)) := Mod.to (m := Mod.alloc (m := m2) (.cells #[.int .u32 1, .int .i64 0, .string ⟨#[97]⟩, .string ⟨#[98]⟩] 44)) (by unfold manS; simp only [List.length_nil]; ac_rfl)
    refine (mAdd_spec mp p jj 1 none 0 noKnow D1 [] ⟨some ⟨w2.heap.size, 0, none⟩, 1, none, 0⟩ lx1 _ w0 _ mA h1 ((reads_one (g := w2.heap.size) (f := lf1) (cells := #[.int .u32 1, .int .i64 0, .string ⟨#[97]⟩, .string ⟨#[98]⟩]) lx1_ok rfl rfl rfl).lift inferInstance) (T.out.lift inferInstance) (by decide) (by decide) (Nat.zero_le _)).mono ?_
    rintro e w3 ⟨r, D2, num2, xs2, k2, jj2, A2, c2, rfl, h2, hs2, hn2, hr2, hc2, m3⟩
    have hg : GoodAdd D1 noKnow [] lx1 := ⟨lf1_fine, by have := lx1_len; omega, ⟨_, lx1_do⟩, .inr ⟨by rw [hs1]; exact Nat.le_refl _, by simp [recsB, journal], by have := lx1_len; omega⟩, by simp [noKnow]⟩
    obtain ⟨rfl, hk2⟩ : r = 0 ∧ doK noKnow lx1 = some k2 := hr2.elim id (fun h => absurd hg h.2.2.1)
    obtain rfl : lk1 = k2 := by rw [lx1_do] at hk2; exact Option.some.inj hk2
    have H2 := Lib.hid h2
    clear h1 h2 m2 mA hr2 hk2 hg hs1 hs2
    go_wp2_with fail
    refine (fail_left p D2 w3 w0 _ _ m3 ⟨rfl⟩ 0 false (by omega) 0 rfl).mono ?_
    rintro e w4 ⟨p3, D3, rfl, hl, m4⟩
    have H3 := Lib.hid (H2.out.fail hl)
    clear hl
    go_wp2_with fail
    refine (mOpen_old p3 num2 lk1 D3 xs2 w4 w0 _ m4 H3.out (T.out.lift inferInstance) (by omega)).mono ?_
    rintro e w5 ⟨mp3, jj3, A3, c3, D4, rfl, h4, _, hc4, m5⟩
    clear m4 m3 h4
    go_wp2_with fail
    have mB : Mod (w5.alloc (.cells #[.int .u32 1, .int .i64 0, .string ⟨#[97]⟩, .string ⟨#[98]⟩] 44)) w0 (manS mp p jj2 num2 xs2.length A2 c2 lk1 D2 (journal [] (recsB xs2)).length (blk w5.heap.size (.cells #[.int .u32 1, .int .i64 0, .string ⟨#[97]⟩, .string ⟨#[98]⟩] 44 (0, 0)) * (manS mp3 p3 jj3 num2 xs2.length A3 c3 lk1 D4 (journal [] (recsB xs2)).length (blk w2.heap.size (.cells #[.int .u32 1, .int .i64 0, .string ⟨#[97]⟩, .string ⟨#[98]⟩] 44 (0, 0)) * F)))) := Mod.to (m := Mod.alloc (m := m5) (.cells #[.int .u32 1, .int .i64 0, .string ⟨#[97]⟩, .string ⟨#[98]⟩] 44)) (by unfold manS; ac_rfl)
    refine (mAdd_spec mp p jj2 num2 A2 c2 lk1 D2 xs2 ⟨some ⟨w5.heap.size, 0, none⟩, 1, none, 0⟩ lx2 _ w0 _ mB H2.out ((reads_one (g := w5.heap.size) (f := lf1) (cells := #[.int .u32 1, .int .i64 0, .string ⟨#[97]⟩, .string ⟨#[98]⟩]) lx2_ok rfl rfl rfl).lift inferInstance) (T.out.lift inferInstance) (by omega) (by decide) hc2).mono ?_
    rintro e w6 ⟨r, D6, num6, xs6, k6, jj6, A6, c6, rfl, h6, _, hn6, hr6, hc6, m6⟩
    obtain ⟨rfl, rfl⟩ : r = 1 ∧ k6 = lk1 := hr6.elim (fun h => by have := h.2; rw [lx2_do] at this; cases this) (fun h => ⟨h.2.2.2 lf1_fine (by have := lx2_len; omega) lx2_do, h.2.1⟩)
    have H6 := Lib.hid h6
    clear m5 mB hr6 h6
    go_wp2_with fail
    have mC : Mod (w6.alloc (.cells #[.int .u32 9] 36)) w0 (manS mp p jj6 num6 xs6.length A6 c6 lk1 D6 (journal [] (recsB xs6)).length (blk w6.heap.size (.cells #[.int .u32 9] 36 (0, 0)) * (blk w5.heap.size (.cells #[.int .u32 1, .int .i64 0, .string ⟨#[97]⟩, .string ⟨#[98]⟩] 44 (0, 0)) * (manS mp3 p3 jj3 num2 xs2.length A3 c3 lk1 D4 (journal [] (recsB xs2)).length (blk w2.heap.size (.cells #[.int .u32 1, .int .i64 0, .string ⟨#[97]⟩, .string ⟨#[98]⟩] 44 (0, 0)) * F))))) := Mod.to (m := Mod.alloc (m := m6) (.cells #[.int .u32 9] 36)) (by unfold manS; ac_rfl)
    refine (mAdd_spec mp p jj6 num6 A6 c6 lk1 D6 xs6 ⟨none, 0, some ⟨w6.heap.size, 0, none⟩, 1⟩ lx3 _ w0 _ mC H6.out ((lx3_reads w6.heap.size).lift inferInstance) (T.out.lift inferInstance) (by omega) (by decide) hc6).mono ?_
    rintro e w7 ⟨r, D7, num7, xs7, k7, jj7, A7, c7, rfl, _, _, _, hr7, hc7, m7⟩
    obtain ⟨rfl, rfl⟩ : r = 1 ∧ k7 = lk1 := hr7.elim (fun h => by have := h.2; rw [lx3_do] at this; cases this) (fun h => ⟨h.2.2.2 rfl (by have := lx3_len; omega) lx3_do, h.2.1⟩)
    clear m6 mC hr7
    go_wp2_with fail
    refine (mOpen_nil _ w0 _ m7).mono ?_
    rintro e w8 ⟨rfl, m8⟩
    clear m7
    go_wp2_with fail
    have m9 : ∃ G : Asn, ∃ en4 : Nat, Sub G F ∧ Mod w8 w0 (manS mp3 p3 jj3 num2 xs2.length A3 c3 lk1 D4 en4 (manS mp p jj7 num7 xs7.length A7 c7 lk1 D7 (journal [] (recsB xs7)).length G)) := ⟨blk w6.heap.size (.cells #[.int .u32 9] 36 (0, 0)) * (blk w5.heap.size (.cells #[.int .u32 1, .int .i64 0, .string ⟨#[97]⟩, .string ⟨#[98]⟩] 44 (0, 0)) * (blk w2.heap.size (.cells #[.int .u32 1, .int .i64 0, .string ⟨#[97]⟩, .string ⟨#[98]⟩] 44 (0, 0)) * F)), (journal [] (recsB xs2)).length, inferInstance, Mod.to (m := m8) (by unfold manS; ac_rfl)⟩
    obtain ⟨G, en4, hG, mD⟩ := m9
    clear m8
    refine (files_at mp3 p3 jj3 num2 _ A3 c3 lk1 D4 en4 _ w0 _ mD (by decide)).mono ?_
    rintro e w9 ⟨A9, c9, rfl, _, m9⟩
    go_wp2_with fail
    refine (next_at mp3 p3 jj3 num2 _ A3 c3 lk1 D4 en4 _ w0 _ m9).mono ?_
    rintro e w10 ⟨rfl, m10⟩
    have m11 : Mod w10 w0 (manS mp p jj7 num7 xs7.length A7 c7 lk1 D7 (journal [] (recsB xs7)).length (manS mp3 p3 jj3 num2 xs2.length A3 c3 lk1 D4 en4 (kfA A9 c9 lk1.files * G))) := Mod.to (m := m10) (by unfold manS; ac_rfl)
    clear m10 m9 mD
    go_wp2_with fail
    refine (files_at mp p jj7 num7 _ A7 c7 lk1 D7 _ _ w0 _ m11 (by decide)).mono ?_
    rintro e w12 ⟨A12, c12, rfl, _, m12⟩
    clear m11
    go_wp2_with fail
    refine (mAdd_nil _ _ _ _ _ _ w0 _ m12).mono ?_
    rintro e w13 ⟨rfl, m13⟩
    clear m12
    go_wp2_with fail
    go_ret
    refine ⟨rfl, Mod.sub F (S := manS mp p jj7 num7 xs7.length A7 c7 lk1 D7 (journal [] (recsB xs7)).length (kfA A12 c12 lk1.files * (manS mp3 p3 jj3 num2 xs2.length A3 c3 lk1 D4 en4 (kfA A9 c9 lk1.files * G))))⟩
  · exact absurd h (by decide)
end Go.Proofs.YtmhlebpchllpbaaGreatDoor
namespace Go.Proofs.YtmhlebpchllpbaaGreatDoor
open Go Go.Sl
theorem dropNums_one {l : List FileV} {x : FileV} (hx : x ∈ l) (h : twiceF l = false) : ∃ l', dropNums l [x.num] = some l' ∧ (x :: l').Perm l := by
  have hn : (l.map (·.num)).Nodup := by unfold twiceF at h; simpa using h
  induction l with
  | nil => cases hx
  | cons y l ih =>
    simp only [dropNums, List.findIdx?_cons]
    by_cases hy : y.num = x.num
    · have e : y = x := by
        rcases List.mem_cons.1 hx with e | e
        · exact e.symm
        · have := (List.nodup_cons.1 (show (y.num :: l.map (·.num)).Nodup from hn)).1
          exact absurd (by rw [hy]; exact List.mem_map_of_mem e) this
      rw [if_pos (by simpa using hy)]
      exact ⟨l, rfl, by rw [e]⟩
    · have hxl : x ∈ l := by
        rcases List.mem_cons.1 hx with e | e
        · exact absurd (by rw [e]) hy
        · exact e
      have hn2 := (List.nodup_cons.1 (show (y.num :: l.map (·.num)).Nodup from hn)).2
      obtain ⟨l', h1, h2⟩ := ih hxl (by unfold twiceF; simpa using hn2) hn2
      simp only [dropNums] at h1
      rw [if_neg (by simpa using hy)]
      cases hf : l.findIdx? (fun f => decide (f.num = x.num)) with
      | none => rw [hf] at h1; cases h1
      | some i =>
        rw [hf] at h1
        simp only [Option.some.injEq] at h1
        refine ⟨y :: l', by simp [h1], (List.Perm.swap y x l').trans (h2.cons y)⟩
theorem dropNums_all : ∀ l : List FileV, dropNums l (l.map (·.num)) = some []
  | [] => rfl
  | y :: l => by
    simp only [List.map_cons, dropNums, List.findIdx?_cons, decide_true, if_true, List.eraseIdx_zero, List.tail_cons]
    exact dropNums_all l
theorem perm_one {l l' : List FileV} (hp : l'.Perm l) (hs : sortFiles l = l) (ht : twiceF l = false) : sortFiles l' = l := by
  have h1 : (sortFiles l').Perm l := (List.mergeSort_perm l' leF).trans hp
  have h2 : sortedF (sortFiles l') := (sortFiles_sorted l').imp fun h => by unfold leF at h; simpa using h
  rw [sorted_one h1 h2 ht, hs]
def xAdd (x : FileV) : EditV := ⟨[x], [], 0, 0, 0⟩
def xDrop (n : Nat) : EditV := ⟨[], [n], 0, 0, 0⟩
def xTake (x : FileV) (l : List FileV) : EditV := ⟨[x], l.map (·.num), 0, 0, 0⟩
def xBack (l : List FileV) (n : Nat) : EditV := ⟨l, [n], 0, 0, 0⟩
theorem twiceF_nil : twiceF [] = false := rfl
theorem twiceF_one (x : FileV) : twiceF [x] = false := by simp [twiceF]
theorem doE_mk {l l1 : List FileV} {x : EditV} (h1 : fineF l = true) (h2 : fineF x.added = true) (h3 : twiceF l = false) (h4 : dropNums l x.removed = some l1) (h5 : twiceF (l1 ++ x.added) = false) : doE l x = some (sortFiles (l1 ++ x.added)) := by
  unfold doE
  rw [if_neg (by rw [h1, h2, h3]; simp), h4]
  simp only [h5, Bool.false_eq_true, if_false]
theorem undo_add {k k1 : MKnow} {x : FileV} (h : doK k (xAdd x) = some k1) : fineF [x] = true ∧ k1.files.Perm (x :: k.files) ∧ k1.files.length = k.files.length + 1 := by
  unfold doK at h
  obtain ⟨l, hl, rfl⟩ := Option.map_eq_some_iff.1 h
  obtain ⟨_, h2, _, l1, h4, h5, rfl⟩ := doE_some hl
  have h4 : some k.files = some l1 := h4
  injection h4 with h4
  subst h4
  have hp : (sortFiles (k.files ++ [x])).Perm (x :: k.files) := (List.mergeSort_perm _ leF).trans List.perm_append_comm
  exact ⟨h2, hp, by show (sortFiles (k.files ++ [x])).length = _; rw [hp.length_eq, List.length_cons]⟩
theorem undo_drop {k k1 : MKnow} {x : FileV} (hk : KnowOk k) (hk1 : KnowOk k1) (hp : k1.files.Perm (x :: k.files)) : ∃ k2, doK k1 (xDrop x.num) = some k2 ∧ k2.files = k.files := by
  obtain ⟨l', h1, h2⟩ := dropNums_one (hp.mem_iff.2 (List.mem_cons_self ..)) hk1.once
  have h3 : l'.Perm k.files := List.Perm.cons_inv (h2.trans hp)
  have h4 : twiceF (l' ++ []) = false := by rw [List.append_nil, twiceF_perm h3]; exact hk.once
  have := doE_mk (x := xDrop x.num) hk1.fine rfl hk1.once h1 h4
  refine ⟨⟨sortFiles (l' ++ []), 0, 0, 0⟩, by unfold doK; rw [this]; rfl, ?_⟩
  show sortFiles (l' ++ []) = _
  rw [List.append_nil]
  exact perm_one h3 hk.sorted hk.once
theorem undo_take {k : MKnow} {x : FileV} (hk : KnowOk k) (hx : fineF [x] = true) : ∃ k2, doK k (xTake x k.files) = some k2 ∧ k2.files = [x] := by
  have := doE_mk (x := xTake x k.files) hk.fine hx hk.once (dropNums_all _) (twiceF_one x)
  refine ⟨⟨sortFiles ([] ++ [x]), 0, 0, 0⟩, by unfold doK; rw [this]; rfl, ?_⟩
  show sortFiles [x] = _
  simp [sortFiles]
theorem undo_back {k k3 : MKnow} {x : FileV} (hk : KnowOk k) (hk3 : KnowOk k3) (h : k3.files = [x]) : ∃ k4, doK k3 (xBack k.files x.num) = some k4 ∧ k4.files = k.files := by
  have hd : dropNums k3.files [x.num] = some [] := by rw [h]; simp [dropNums]
  have := doE_mk (x := xBack k.files x.num) hk3.fine hk.fine hk3.once hd (by rw [List.nil_append]; exact hk.once)
  refine ⟨⟨sortFiles ([] ++ k.files), 0, 0, 0⟩, by unfold doK; rw [this]; rfl, ?_⟩
  show sortFiles k.files = _
  exact hk.sorted
/-- An edit of few files may be added to a great disk. -/
theorem good_undo {D : DiskSt} {k k' : MKnow} {xs : List EditV} {x : EditV} (hs : D.size = 8388608) (hf : fineF x.added = true) (hn : ∀ f ∈ x.added, f.num < 4294967296) (hr : ∀ v ∈ x.removed, v < 4294967296) (h1 : x.added.length ≤ 21) (h2 : x.removed.length ≤ 21) (hj : x.journal = 0) (hx : x.next = 0) (hq : x.seq = 0) (hd : doK k x = some k') (hk : k.files.length ≤ 30) : fineF x.added = true ∧ (editB x).length ≤ 32768 ∧ (∃ k', doK k x = some k') ∧ Roomy D xs x ∧ k.files.length ≤ 30 := by
  have := edit_len (x := x) hf hn hr (by omega) (by omega) (by omega) (by omega) (by omega)
  exact ⟨hf, by omega, ⟨_, hd⟩, .inl hs, hk⟩
end Go.Proofs.YtmhlebpchllpbaaGreatDoor
namespace Go.Proofs.YtmhlebpchllpbaaGreatDoor
open Go.ChangeShapes Go.WideShapes Go.ChangeAt Go.RowKit Go.Sl Go.Deep
/-- Edits that are read. -/
structure ReadsEdits (S : Asn) (A : Option Addr) (n : Nat) (l : List (EditL × EditV)) : Prop where
  len : l.length = n
  cells : Reads S A (n * 5) (l.flatMap fun y => (editCells y.1 y.2).toList)
  each : ∀ y ∈ l, ReadsEdit S y.1 y.2
  sum : (l.map fun y => y.2.added.length).sum ≤ 1048576
theorem ReadsEdits.lift {S' S : Asn} {A : Option Addr} {n : Nat} {l : List (EditL × EditV)} (s : Sub S' S) (r : ReadsEdits S A n l) : ReadsEdits S' A n l :=
  ⟨r.len, reads_lift s r.cells, fun y hy => (r.each y hy).lift s, r.sum⟩
theorem fileE_flat : ∀ (l : List FileV) (i : Nat) (v : Value), (l.flatMap FileV.cells)[i]? = some v → ∃ h : i / 4 < l.length, (l[i / 4].cells)[i % 4]? = some v
  | [], i, _, h => by simp at h
  | x :: l, i, v, h => by
    have hl : x.cells.length = 4 := rfl
    rw [List.flatMap_cons] at h
    by_cases hi : i < 4
    · rw [List.getElem?_append_left (by rw [hl]; exact hi)] at h
      have e1 : i / 4 = 0 := by omega
      have e2 : i % 4 = i := by omega
      refine ⟨by rw [e1]; simp, ?_⟩
      simp only [e1, e2, List.getElem_cons_zero]
      exact h
    · rw [List.getElem?_append_right (by rw [hl]; omega), hl] at h
      obtain ⟨h1, h2⟩ := fileE_flat l (i - 4) v h
      have e1 : i / 4 = (i - 4) / 4 + 1 := by omega
      have e2 : i % 4 = (i - 4) % 4 := by omega
      refine ⟨by rw [e1, List.length_cons]; omega, ?_⟩
      simp only [e1, e2, List.getElem_cons_succ]
      exact h2
theorem editE_flat : ∀ (l : List (EditL × EditV)) (i : Nat) (v : Value), (l.flatMap fun y => (editCells y.1 y.2).toList)[i]? = some v → ∃ h : i / 5 < l.length, (editCells l[i / 5].1 l[i / 5].2)[i % 5]? = some v
  | [], i, _, h => by simp at h
  | x :: l, i, v, h => by
    have hl : (editCells x.1 x.2).toList.length = 5 := rfl
    rw [List.flatMap_cons] at h
    by_cases hi : i < 5
    · rw [List.getElem?_append_left (by rw [hl]; exact hi)] at h
      have e1 : i / 5 = 0 := by omega
      have e2 : i % 5 = i := by omega
      refine ⟨by rw [e1]; simp, ?_⟩
      simp only [e1, e2, List.getElem_cons_zero]
      rw [← Array.getElem?_toList]; exact h
    · rw [List.getElem?_append_right (by rw [hl]; omega), hl] at h
      obtain ⟨h1, h2⟩ := editE_flat l (i - 5) v h
      have e1 : i / 5 = (i - 5) / 5 + 1 := by omega
      have e2 : i % 5 = (i - 5) % 5 := by omega
      refine ⟨by rw [e1, List.length_cons]; omega, ?_⟩
      simp only [e1, e2, List.getElem_cons_succ]
      exact h2
theorem editE_cell : ∀ (l : List (EditL × EditV)) (k j : Nat) (v : Value) (h : k < l.length), (editCells l[k].1 l[k].2)[j]? = some v → (l.flatMap fun y => (editCells y.1 y.2).toList)[k * 5 + j]? = some v
  | [], k, _, _, h, _ => by simp at h
  | x :: l, 0, j, v, _, hv => by
    simp only [List.getElem_cons_zero] at hv
    rw [← Array.getElem?_toList] at hv
    rw [List.flatMap_cons, Nat.zero_mul, Nat.zero_add, List.getElem?_append_left (List.getElem?_eq_some_iff.1 hv).1]
    exact hv
  | x :: l, k + 1, j, v, h, hv => by
    have hl : (editCells x.1 x.2).toList.length = 5 := rfl
    rw [List.flatMap_cons, List.getElem?_append_right (by rw [hl]; omega), hl, show (k + 1) * 5 + j - 5 = k * 5 + j by omega]
    exact editE_cell l k j v (by simpa using h) (by simpa using hv)
set_option maxRecDepth 100000 in
theorem cellsE_u32 : Tryz.prog.cellsOf 36 = 1 := by kernel_rfl
set_option maxRecDepth 100000 in
theorem cellsE_u64 : Tryz.prog.cellsOf 37 = 1 := by kernel_rfl
set_option maxRecDepth 100000 in
theorem cellsE_u32s : Tryz.prog.cellsOf 35 = 1 := by kernel_rfl
set_option maxRecDepth 100000 in
theorem cellsE_files : Tryz.prog.cellsOf 32 = 1 := by kernel_rfl
set_option maxRecDepth 100000 in
theorem cellsE_file : Tryz.prog.cellsOf 44 = 4 := by kernel_rfl
set_option maxRecDepth 100000 in
theorem cellsE_edit : Tryz.prog.cellsOf 39 = 5 := by kernel_rfl
theorem wfE_u32 {k : Int} (h : (Lit.int .u32 k).wf = true) : ∃ n : Nat, k = n ∧ n < 4294967296 := by
  have h1 : IntKind.u32.min ≤ k ∧ k ≤ IntKind.u32.max := by simpa [Lit.wf] using h
  have e1 : IntKind.u32.min = 0 := by decide
  have e2 : IntKind.u32.max = 4294967295 := by decide
  rw [e1, e2] at h1
  exact ⟨k.toNat, by omega, by omega⟩
theorem wfE_u64 {k : Int} (h : (Lit.int .u64 k).wf = true) : ∃ n : Nat, k = n ∧ n < 18446744073709551616 := by
  have h1 : IntKind.u64.min ≤ k ∧ k ≤ IntKind.u64.max := by simpa [Lit.wf] using h
  have e1 : IntKind.u64.min = 0 := by decide
  have e2 : IntKind.u64.max = 18446744073709551615 := by decide
  rw [e1, e2] at h1
  exact ⟨k.toNat, by omega, by omega⟩
theorem natsE_u32 {xs : List Int} (h : ∀ x ∈ xs, (Lit.int .u32 x).wf = true) : ∃ ys : List Nat, xs.map (Value.int .u32) = ys.map (fun v : Nat => Value.int .u32 (v : Int)) ∧ ys.length = xs.length ∧ ∀ y ∈ ys, y < 4294967296 := by
  induction xs with
  | nil => exact ⟨[], rfl, rfl, by simp⟩
  | cons x xs ih =>
    obtain ⟨ys, h1, h2, h3⟩ := ih fun y hy => h y (List.mem_cons_of_mem _ hy)
    obtain ⟨y, rfl, hy⟩ := wfE_u32 (h x (List.mem_cons_self ..))
    exact ⟨y :: ys, by simp only [List.map_cons, h1], by simp [h2], fun z hz => (List.mem_cons.1 hz).elim (fun e => by rw [e]; exact hy) (h3 z)⟩
section
variable {H : Type} {enc : TypeId × Value → H} {W : World} {base : Nat} {held : Bool}
/-- A slice of numbers, as a cell. -/
theorem u32s_cell {fuel : Nat} {v : Value} {x : DataW H × List MemPlace} (h : DataW.trod enc Tryz.prog W base (fun _ => true) held fuel 35 [v] = some x) :
    ∃ (a : Option Addr) (c : Nat) (b : List Nat), v = .slice a b.length c ∧ ReadsNums (just (hp W)) a b.length b ∧ b.length ≤ c ∧ (∀ y ∈ b, y < 4294967296) ∧ (b = [] ∨ ∃ el sp, x.1 = .slice el sp ∧ el.length = b.length) := by
  rcases open_ints Tryz.underlying35 Tryz.underlying36 cellsE_u32 h with ⟨h1, h2⟩ | ⟨a', n', c', zs, h1, _, hl, hm, hz, h2, h3, h4⟩
  · simp at h1
    exact ⟨none, 0, [], h1, ⟨rfl, reads_nil⟩, Nat.le_refl _, by simp, .inl rfl⟩
  · simp at h1
    simp only [if_true] at hz
    obtain ⟨ys, e1, e2, e3⟩ := natsE_u32 (xs := zs.take n') fun y hy => h4 y (List.mem_of_mem_take hy)
    have hlen : ys.length = n' := by rw [e2, List.length_take]; omega
    refine ⟨some a', c', ys, by rw [hlen]; exact h1, ⟨rfl, ?_⟩, by rw [hlen]; exact hl, e3, .inr ⟨_, _, by rw [h2], by rw [hlen]; simp [lits]; omega⟩⟩
    rw [← e1, hlen]
    refine reads_of_cells (by rw [List.length_map, List.length_take]; omega) fun i v hv => ?_
    simp only [List.getElem?_map, List.getElem?_take] at hv
    split at hv
    · rw [h3 i (by omega)]
      cases hz2 : zs[i]? with
      | none => rw [hz2] at hv; cases hv
      | some z =>
        rw [hz2] at hv
        simp only [Option.map_some, Option.some.injEq] at hv
        rw [← hv, List.getD_eq_getElem?_getD, hz2]; rfl
    · cases hv
set_option maxRecDepth 100000 in
theorem fileE_of {fuel : Nat} {cs : List Value} {x : DataW H × List MemPlace} (h2 : DataW.trod enc Tryz.prog W base (fun _ => true) held fuel 44 cs = some x) : ∃ f : FileV, cs = f.cells ∧ f.num < 4294967296 := by
  obtain ⟨xs, k, hk, hxy, hcl, hxl, hf⟩ := DataW.trod_struct Tryz.underlying44 h2
  rw [cellsE_file] at hcl
  match xs, hxl, cs, hcl with
  | [y0, y1, y2, y3], _, [v0, v1, v2, v3], _ =>
    have g0 := hf 0 _ rfl
    have g1 := hf 1 _ rfl
    have g2 := hf 2 _ rfl
    have g3 := hf 3 _ rfl
    simp [cellsE_u32, cells_int, cells_string] at g0 g1 g2 g3
    obtain ⟨n0, e0, _, wf0⟩ := DataW.trod_int Tryz.underlying36 g0
    obtain ⟨n1, e1, _, wf1⟩ := DataW.trod_int Tryz.underlying3 g1
    obtain ⟨s2, e2, _, wf2⟩ := DataW.trod_string Tryz.underlying9 g2
    obtain ⟨s3, e3, _, wf3⟩ := DataW.trod_string Tryz.underlying9 g3
    simp at e0 e1 e2 e3
    obtain ⟨k0, rfl, hk0⟩ := wfE_u32 wf0
    subst e0 e1 e2 e3
    exact ⟨⟨k0, n1, s2, s3⟩, rfl, hk0⟩
/-- A slice of files, as a cell. -/
theorem files_cell {fuel : Nat} {v : Value} {x : DataW H × List MemPlace} (h : DataW.trod enc Tryz.prog W base (fun _ => true) held fuel 32 [v] = some x) :
    ∃ (a : Option Addr) (c : Nat) (b : List FileV), v = .slice a b.length c ∧ ReadsFiles (just (hp W)) a b.length b ∧ b.length ≤ c ∧ (∀ y ∈ b, y.num < 4294967296) ∧ (b = [] ∨ ∃ el sp, x.1 = .slice el sp ∧ el.length = b.length) := by
  rcases open_slice Tryz.underlying32 h with ⟨h1, h2⟩ | ⟨a', n', c', m, k, D, Pl, h1, _, hl, hm, hmm, h2, h3⟩
  · simp at h1
    exact ⟨none, 0, [], h1, ⟨rfl, reads_nil⟩, Nat.le_refl _, by simp, .inl rfl⟩
  · simp at h1
    have hlm := le_m hl hmm
    rw [cellsE_file] at h3
    have each : ∀ i, i < n' → ∃ f : FileV, W.cells? base (a'.add (i * 4)) 4 = some f.cells ∧ f.num < 4294967296 := fun i hi => by
      obtain ⟨cs, g1, g2⟩ := h3 i (by omega)
      obtain ⟨f, rfl, hf⟩ := fileE_of g2
      exact ⟨f, g1, hf⟩
    have : Inhabited FileV := ⟨⟨0, 0, ⟨#[]⟩, ⟨#[]⟩⟩⟩
    obtain ⟨q, hq⟩ := choose_lt each
    have hlen : ((List.range n').map q).length = n' := by simp
    refine ⟨some a', c', (List.range n').map q, by rw [hlen]; exact h1, ⟨rfl, ?_⟩, by rw [hlen]; exact hl, fun y hy => ?_, .inr ⟨_, _, by rw [h2], by simp⟩⟩
    · rw [hlen]
      refine reads_of_cells ?_ fun i v hv => ?_
      · rw [List.length_flatMap]
        have : ((List.range n').map q).map (fun x => x.cells.length) = List.replicate n' 4 := by
          apply List.ext_getElem <;> simp [FileV.cells]
        rw [this, List.sum_replicate_nat]
      · obtain ⟨g1, g2⟩ := fileE_flat _ i v hv
        have hi : i / 4 < n' := by simpa using g1
        obtain ⟨_, _, hcell⟩ := World.cells?_some (hq (i / 4) hi).1
        have h4 : i % 4 < 4 := Nat.mod_lt _ (by omega)
        have := hcell (i % 4) h4
        rw [add_add] at this
        rw [show i / 4 * 4 + i % 4 = i by omega] at this
        rw [this, ← g2]
        simp
    · obtain ⟨i, hi, rfl⟩ := List.mem_map.1 hy
      exact (hq i (List.mem_range.1 hi)).2
structure EditAt (W : World) (H : Type) (d : DataW H) (cs : List Value) (y : EditL × EditV) : Prop where
  cell : cs = (editCells y.1 y.2).toList
  added : ReadsFiles (just (hp W)) y.1.aA y.2.added.length y.2.added
  removed : ReadsNums (just (hp W)) y.1.rA y.2.removed.length y.2.removed
  nums : ∀ f ∈ y.2.added, f.num < 4294967296
  nums2 : ∀ v ∈ y.2.removed, v < 4294967296
  journal : y.2.journal < 4294967296
  next : y.2.next < 4294967296
  seq : y.2.seq < 18446744073709551616
  capA : y.2.added.length ≤ y.1.aC
  capR : y.2.removed.length ≤ y.1.rC
  data : ∃ d0 d1 d2 d3 d4, d = .agg [d0, d1, d2, d3, d4] ∧ (y.2.added = [] ∨ ∃ el sp, d0 = .slice el sp ∧ el.length = y.2.added.length) ∧ (y.2.removed = [] ∨ ∃ el sp, d1 = .slice el sp ∧ el.length = y.2.removed.length)
set_option maxRecDepth 100000 in
theorem edit_of {fuel : Nat} {cs : List Value} {x : DataW H × List MemPlace} (h2 : DataW.trod enc Tryz.prog W base (fun _ => true) held fuel 39 cs = some x) : ∃ y, EditAt W H x.1 cs y := by
  obtain ⟨xs, k, hk, hxy, hcl, hxl, hf⟩ := DataW.trod_struct Tryz.underlying39 h2
  rw [cellsE_edit] at hcl
  match xs, hxl, cs, hcl with
  | [y0, y1, y2, y3, y4], _, [v0, v1, v2, v3, v4], _ =>
    have g0 := hf 0 _ rfl
    have g1 := hf 1 _ rfl
    have g2 := hf 2 _ rfl
    have g3 := hf 3 _ rfl
    have g4 := hf 4 _ rfl
    simp [cellsE_u32, cellsE_u64, cellsE_u32s, cellsE_files] at g0 g1 g2 g3 g4
    obtain ⟨a0, c0, b0, e0, r0, l0, s0, x0⟩ := files_cell g0
    obtain ⟨a1, c1, b1, e1, r1, l1, s1, x1⟩ := u32s_cell g1
    obtain ⟨n2, e2, _, wf2⟩ := DataW.trod_int Tryz.underlying36 g2
    obtain ⟨n3, e3, _, wf3⟩ := DataW.trod_int Tryz.underlying36 g3
    obtain ⟨n4, e4, _, wf4⟩ := DataW.trod_int Tryz.underlying37 g4
    simp at e2 e3 e4
    obtain ⟨k2, rfl, hk2⟩ := wfE_u32 wf2
    obtain ⟨k3, rfl, hk3⟩ := wfE_u32 wf3
    obtain ⟨k4, rfl, hk4⟩ := wfE_u64 wf4
    subst e0 e1 e2 e3 e4
    exact ⟨(⟨a0, c0, a1, c1⟩, ⟨b0, b1, k2, k3, k4⟩), rfl, r0, r1, s0, s1, hk2, hk3, hk4, l0, l1, y0.1, y1.1, y2.1, y3.1, y4.1, by rw [hxy]; rfl, x0, x1⟩
theorem bulk_one {H : Type} (d : DataW H) : 1 ≤ Rows.uptoBulk d := by
  cases d with
  | lit l => cases l <;> simp [Rows.uptoBulk]
  | nil => simp [Rows.uptoBulk]
  | ptr d => simp [Rows.uptoBulk]
  | slice elems spare => simp [Rows.uptoBulk]
  | agg parts => simp [Rows.uptoBulk]
  | iface t d => simp [Rows.uptoBulk]
  | map entries => simp [Rows.uptoBulk]
  | held h => simp [Rows.uptoBulk]
theorem bulk_len {H : Type} (l : List (DataW H)) : l.length ≤ Rows.uptoBulkAll l := by
  induction l with
  | nil => simp [Rows.uptoBulkAll]
  | cons x r ih => have := bulk_one x; simp only [Rows.uptoBulkAll, List.length_cons]; omega
theorem EditAt.bulk {d : DataW H} {cs : List Value} {y : EditL × EditV} (h : EditAt W H d cs y) : y.2.added.length + y.2.removed.length ≤ Rows.uptoBulk d := by
  obtain ⟨d0, d1, d2, d3, d4, rfl, h0, h1⟩ := h.data
  simp only [Rows.uptoBulk, Rows.uptoBulkAll]
  have b0 : y.2.added.length ≤ Rows.uptoBulk d0 := by
    rcases h0 with h0 | ⟨el, sp, rfl, hl⟩
    · rw [h0]; exact Nat.zero_le _
    · have := bulk_len el
      simp only [Rows.uptoBulk]
      omega
  have b1 : y.2.removed.length ≤ Rows.uptoBulk d1 := by
    rcases h1 with h1 | ⟨el, sp, rfl, hl⟩
    · rw [h1]; exact Nat.zero_le _
    · have := bulk_len el
      simp only [Rows.uptoBulk]
      omega
  omega
theorem bulk_sum {α : Type} (D : α → DataW H) (f g : α → Nat) : ∀ l : List α, (∀ i ∈ l, f i + g i ≤ Rows.uptoBulk (D i)) → (l.map f).sum + (l.map g).sum ≤ Rows.uptoBulkAll (l.map D)
  | [], _ => by simp [Rows.uptoBulkAll]
  | i :: l, h => by
    have h1 := h i (List.mem_cons_self ..)
    have h2 := bulk_sum D f g l fun j hj => h j (List.mem_cons_of_mem _ hj)
    simp only [List.map_cons, List.sum_cons, Rows.uptoBulkAll]
    omega
theorem le_sum : ∀ {l : List Nat} {v : Nat}, v ∈ l → v ≤ l.sum
  | x :: l, v, h => by
    rw [List.sum_cons]
    rcases List.mem_cons.1 h with rfl | h
    · omega
    · have := le_sum h; omega
set_option maxRecDepth 100000 in
theorem arg_edits {a : Option Addr} {n c : Nat} {d : DataW H} {p : List MemPlace} (h : DataW.Trod enc Tryz.prog W base (fun _ => true) held 23 (.slice a n c) d p) (hb : Rows.uptoBulk d ≤ 1048576) : ∃ l, ReadsEdits (just (hp W)) a n l ∧ n ≤ 1048576 := by
  obtain ⟨fuel, hf⟩ := h
  rcases open_slice Tryz.underlying23 hf with ⟨h1, h2⟩ | ⟨a', n', c', m, k, D, Pl, h1, _, hl, hm, hmm, h2, h3⟩
  · simp [Value.cells] at h1
    obtain ⟨rfl, rfl, rfl⟩ := h1
    exact ⟨[], ⟨rfl, reads_nil, by simp, by simp⟩, by omega⟩
  · simp [Value.cells] at h1
    obtain ⟨rfl, rfl, rfl⟩ := h1
    have hlm := le_m hl hmm
    rw [cellsE_edit] at h3
    have each : ∀ i, i < n → ∃ y : EditL × EditV, ∃ cs, W.cells? base (a'.add (i * 5)) 5 = some cs ∧ EditAt W H (D i) cs y := fun i hi => by
      obtain ⟨cs, g1, g2⟩ := h3 i (by omega)
      obtain ⟨y, hy⟩ := edit_of g2
      exact ⟨y, cs, g1, hy⟩
    have : Inhabited (EditL × EditV) := ⟨(⟨none, 0, none, 0⟩, ⟨[], [], 0, 0, 0⟩)⟩
    obtain ⟨q, hq⟩ := choose_lt each
    injection h2 with hd2 _
    rw [hd2] at hb
    simp only [Rows.uptoBulk] at hb
    have hn : n ≤ 1048576 := by
      have := bulk_len ((List.range n).map D)
      rw [List.length_map, List.length_range] at this
      omega
    have hs := bulk_sum D (fun i => (q i).2.added.length) (fun i => (q i).2.removed.length) (List.range n) fun i hi => by
      obtain ⟨cs, _, hy⟩ := hq i (List.mem_range.1 hi)
      exact hy.bulk
    refine ⟨(List.range n).map q, ⟨by simp, ?_, ?_, ?_⟩, hn⟩
    · refine reads_of_cells ?_ fun i v hv => ?_
      · rw [List.length_flatMap]
        have : ((List.range n).map q).map (fun y => (editCells y.1 y.2).toList.length) = List.replicate n 5 := by
          apply List.ext_getElem <;> simp [editCells]
        rw [this, List.sum_replicate_nat]
      · obtain ⟨g1, g2⟩ := editE_flat _ i v hv
        have hi : i / 5 < n := by simpa using g1
        obtain ⟨cs, hc, hy⟩ := hq (i / 5) hi
        obtain ⟨_, _, hcell⟩ := World.cells?_some hc
        have h5 : i % 5 < 5 := Nat.mod_lt _ (by omega)
        have := hcell (i % 5) h5
        rw [add_add] at this
        rw [show i / 5 * 5 + i % 5 = i by omega] at this
        rw [this, ← g2, hy.cell]
        simp
    · intro y hy
      obtain ⟨i, hi, rfl⟩ := List.mem_map.1 hy
      obtain ⟨cs, _, he⟩ := hq i (List.mem_range.1 hi)
      have b0 := le_sum (List.mem_map_of_mem (f := fun i => (q i).2.added.length) hi)
      have b1 := le_sum (List.mem_map_of_mem (f := fun i => (q i).2.removed.length) hi)
      exact ⟨he.added, he.removed, he.nums, he.nums2, by omega, by omega, he.journal, he.next, he.seq, he.capA, he.capR⟩
    · rw [List.map_map]
      have : ((fun y : EditL × EditV => y.2.added.length) ∘ q) = fun i => (q i).2.added.length := rfl
      rw [this]
      omega
set_option maxRecDepth 100000 in
/-- A file that came in. -/
theorem arg_file {v : Value} {d : DataW H} {p : List MemPlace} (h : DataW.Trod enc Tryz.prog W base (fun _ => true) held 44 v d p) (hv : Value.okWide Tryz.prog W .any base 44 v) : ∃ f : FileV, v = .agg f.cells.toArray ∧ f.num < 4294967296 := by
  obtain ⟨fuel, h⟩ := h
  simp only [Value.okWide, Tryz.underlying44] at hv
  obtain ⟨cs, rfl, _, _⟩ := hv
  obtain ⟨f, h1, h2⟩ := fileE_of h
  have h1 : cs.toList = f.cells := h1
  exact ⟨f, by rw [← h1], h2⟩
end
end Go.Proofs.YtmhlebpchllpbaaGreatDoor
namespace Go.Proofs.YtmhlebpchllpbaaGreatDoor
open Go.RowKit Go.Sl
set_option maxRecDepth 100000 in
theorem pow10_data : (Rows.laid_internal_strconv_uint64pow10 : DataW Unit) = Lib.tabData .u64 Lib.pow10Tab := by kernel_rfl
set_option maxRecDepth 100000 in
theorem pow10_there : (Tryz.prog.globalNamed "internal/strconv.uint64pow10").isSome = true := by kernel_rfl
set_option maxRecDepth 100000 in
theorem pow10_type : ((Tryz.prog.globalNamed "internal/strconv.uint64pow10").bind fun g => (Tryz.prog.globals[g]?).map (·.type)) = some 186 := by kernel_rfl
set_option maxRecDepth 100000 in
theorem pow10_u64 : Tryz.prog.cellsOf 37 = 1 := by kernel_rfl
set_option maxRecDepth 100000 in
theorem pow10_cells : Tryz.prog.cellsOf 186 = 20 := by kernel_rfl
/-- The table lies in the heap. -/
theorem tab_of_laid {W : World} {x y : String × DataW Unit} {rest : List (String × DataW Unit)} (h : laidMet Tryz.prog (x :: y :: ("internal/strconv.uint64pow10", Rows.laid_internal_strconv_uint64pow10) :: rest) W) : TabIn (just (hp W)) := by
  obtain ⟨g, hg⟩ := Option.isSome_iff_exists.1 pow10_there
  have hty := pow10_type
  rw [hg, Option.bind_some] at hty
  have h2 := h.tail.tail
  rw [pow10_data] at h2
  have ht := Lib.tabIs_of_head hg hty Tryz.underlying186 Tryz.underlying37 pow10_u64 pow10_cells h2
  refine ⟨g, hg, fun x hx => ?_⟩
  have hx : x = hp W := hx
  subst hx
  unfold Lib.TabIs World.var? at ht
  rw [hg, Option.bind_some] at ht
  split at ht
  · rename_i cs t f hc
    injection ht with ht
    exact ⟨t, f, by rw [← ht]; exact hc⟩
  · cases ht
/-- There is an input that fits, in a world of the right shape. -/
theorem witness_zip {H : Type} {enc : TypeId × Value → H} {C : Checked} {os : Os} {f : FuncId} {fn : Func} {s : OpenSpec} {conds : List PathCond} {apart : Bool} {laid : List (String × DataW Unit)} (modest : Bool) (w0 : World) (args : Array Value) (hos : w0.os = os)
    (hsh : (w0.forCall (fun _ _ => 0) ⟨#[], args, []⟩).Shaped C.prog)
    (hok : Input.okWideB C.prog (w0.forCall (fun _ _ => 0) ⟨#[], args, []⟩) f ⟨#[], args, []⟩ = true)
    (hrow : s.preRow enc C.prog fn conds apart laid (w0.forCall (fun _ _ => 0) ⟨#[], args, []⟩).memory args) :
    ∃ (w : World) (tape : Tape) (i : Input), w.os = os ∧ (w.forCall tape i).Shaped C.prog ∧ i.vars = [] ∧ Input.okWide C.prog (w.forCall tape i) .any w.heap.size f i ∧
      s.preRow enc C.prog fn conds apart laid (w.forCall tape i).memory i.args ∧ ({ modest := modest } : Assume).holds C.prog (lone (Frame.enter C.prog f i.args .normal) [] (w.forCall tape i)) :=
  ⟨w0, fun _ _ => 0, ⟨#[], args, []⟩, hos, hsh, (Input.okWide_of_okWideB (base := 0) hok).1, (Input.okWide_of_okWideB hok).2, hrow, by
    simp only [Assume.holds]
    exact ⟨by simp, by simp, fun _ => Modest.zero, by simp, by simp⟩⟩
end Go.Proofs.YtmhlebpchllpbaaGreatDoor
