/- The walk of the disk's function List: a contract over the small separation logic; the conditions are in the theorem.
The walk of the disk's function Fail: a contract over the small separation logic; the conditions are in each theorem.
Strings and rows of texts: conversions, and the laws' helpers SameTexts and TextsSize: contracts over the small separation logic; the conditions are in each theorem.
The walk of bucketlinelaw05's alive: a contract over the small separation logic, under no condition.
Disks with two files, and what a failure leaves of such: plain lemmas; and regions that draw their order and whose calls keep what is said of the heap.
Arguments opened: plain lemmas.
Disks in general: how many bytes names' files have, behind each turn; each of the disk's functions that turn it, whatever it is asked: plain lemmas and weak contracts; the conditions are in each theorem.
What a failure leaves of a disk, told by names: a contract; the conditions are in the theorem. -/
import Derived.Test.YtmhlebpchllpbaaGreatDoorDiskG
import Derived.Test.YtmhlebpchllpbaaGreatDoorIter
import Derived.Deep.QuietTactic
import Derived.BigQuiet
import Derived.Deep.RegionHeld3
import Derived.Laws.IdiomStrings
import Derived.Laws.BytesArg
import Derived.Lib.SmallJoins
import Derived.Laws.MakeOwn
import Derived.Test.YtmhlebpchllpbaaGreatDoorFacts
import Derived.Test.YtmhlebpchllpbaaGreatDoorProg
import Derived.ProofKit
import Derived.OpenShut
import Derived.SizedLaws
namespace Go.Proofs.YtmhlebpchllpbaaGreatDoor
open Go.RowKit Go.Sl Go.Maps
attribute [local go_sem] cell_of frozen_of zero_names
/-- A disk's names, rising. -/
def listOf (D : DiskSt) : List (List UInt8) := (D.now.map (·.1.data.toList)).mergeSort leB
theorem length_listOf (D : DiskSt) : (listOf D).length = D.now.length := by unfold listOf; rw [List.length_mergeSort, List.length_map]
theorem named_size {s : ByteArray} (h : nameOk s = true) : s.size ≤ 16 := by
  unfold nameOk at h
  simp only [Bool.and_eq_true, decide_eq_true_eq] at h
  exact h.1.2
set_option maxHeartbeats 1000000 in
theorem list_spec (p : Nat) (D : DiskSt) (w w0 : World) (S F : Asn) (m : Mod w w0 S) (t : Take S (diskA p) D F) :
    Calls Tryz.prog 14 #[.pointer (some ⟨p, 0, none⟩)] w fun e w' => ∃ B c, e = .returned (.slice B (listOf D).length c) ∧ Mod w' w0 (rowA 9 1 (.slice B (listOf D).length c) (listOf D).length ((listOf D).map encStr) * S) := by
  obtain ⟨rn, rs, hok, m1⟩ := disk_open m t
  have hpos : (0 : Int) < D.size := by have := hok.pos; omega
  have hlen : (ptrs D.now).length ≤ 64 := by rw [ptrs, length_onVals]; exact hok.many
  obtain ⟨D0, hown, hperm, hsize⟩ := owns_smap (P := Tryz.prog) (k := 9) (r := rn) (L := ptrs D.now) m1 inferInstance (by kernel_rfl) (fun q hq => by
    obtain ⟨q0, hq0, rfl⟩ := List.mem_map.1 hq
    have := named_size (hok.named q0 hq0)
    show q0.1.size ≤ maxLen
    unfold maxLen; omega) (by unfold maxLen; omega)
  have Hperm := Lib.hid hperm
  clear hperm
  go_enter Tryz.func14, Tryz.ntmps14
  go_wp2_with first
    | (go_at_call 39; refine (there_live p D.size _ _ _ w0 _ hpos).mono ?_; rintro e w' ⟨rfl, rfl⟩)
    | (go_at_call 41; refine (callsIn_wide.1 (Tryz.maps_Keys_41 _ _)).mono ?_; rintro e w' ⟨rfl, rfl⟩)
    | (go_at_call 40; refine (callsIn_wide.1 (Tryz.slices_Sorted_keys_40_41 rn _ D0 _ w hown (by rw [hsize]; unfold maxLen; omega) (by rw [hsize]; omega))).mono ?_; rintro e w' ⟨v, ss, rfl, hS, hrow, hnil, hb⟩)
  go_ret
  have hp : ss.Perm (D.now.map (·.1.data.toList)) := by
    refine (hS.trans Hperm.out).trans ?_
    rw [ptrs, onVals, List.map_map]
    exact List.Perm.refl _
  have hsort : ss.mergeSort leB = listOf D := mergeSort_of_perm hp
  have hl : ss.length = (listOf D).length := by rw [← hsort, List.length_mergeSort]
  have ma : Mod (w.alloc (.cells #[.map (some rn)] 48)) w0 (blk w.heap.size (.cells #[.map (some rn)] 48) * S) := Mod.alloc (m := m) (hn := ⟨rfl⟩) _
  have mb := (Mod.rowBelow (Mod.drop (m := ma)) rfl hb hrow)
  have hv : ∃ B c, v = .slice B ss.length c := by
    rcases (owns_of_row mb).2 with ⟨h1, h2⟩ | ⟨g, cap, cur, h1, _⟩
    · exact ⟨none, 0, by rw [h1, h2]⟩
    · exact ⟨_, _, h1⟩
  obtain ⟨B, c, rfl⟩ := hv
  rw [hl] at mb ⊢
  rw [hsort] at mb
  exact ⟨B, c, rfl, mb⟩
end Go.Proofs.YtmhlebpchllpbaaGreatDoor
namespace Go.Proofs.YtmhlebpchllpbaaGreatDoor
open Go.RowKit Go.Sl
attribute [local go_sem] cell_of frozen_of zero_names
theorem fail_arg (p : Nat) (D : DiskSt) (w w0 : World) (S F : Asn) (m : Mod w w0 S) (t : Take S (diskA p) D F) (keep : Int) (b : Bool) (hk : keep < 0) :
    Calls Tryz.prog 11 #[.pointer (some ⟨p, 0, none⟩), .int .i64 keep, .bool b] w fun e w' => e = .returned (.tuple #[.pointer none, .int .i64 1]) ∧ Mod w' w0 S := by
  obtain ⟨rn, rs, hok, m1⟩ := disk_open m t
  clear m
  have hpos : (0 : Int) < D.size := by have := hok.pos; omega
  go_enter Tryz.func11, Tryz.ntmps11
  go_wp2_with (go_at_call 35; refine (ask_none p D.size _ _ _ _ w0 _ hpos 1 (by simp; omega)).mono ?_; rintro e w' ⟨rfl, _inst⟩)
  go_ret2
  exact ⟨rfl, fset_back t _inst hok rfl⟩
/-- What is kept of a file. -/
def kept (keep : Nat) (f : FileSt) : FileSt := ⟨f.bytes.take (f.sure + min keep (f.bytes.length - f.sure)), f.sure + min keep (f.bytes.length - f.sure)⟩
def keptOf (D : DiskSt) (keep : Nat) (g : Nat) : FileSt := match fget D.files g with | some f => kept keep f | none => ⟨[], 0⟩
/-- The new disk's names and files, out of what was made so far, the last one first. -/
abbrev Made := List (ByteArray × Nat × FileSt)
def Made.dir (M : Made) : Dir := (M.map fun q => (q.1, q.2.1)).reverse
def Made.tab (M : Made) : FileTab := M.map (·.2)
theorem clone_pre (B : Option Addr) (n c len : Nat) (l : List UInt8) (w w0 : World) (S : Asn) (m : Mod w w0 S) [r : Reads S B len (u8s l)] (h : n ≤ len) (hk : len ≤ 1048576) :
    Calls Tryz.prog 36 #[.slice B n c] w fun e w' => ∃ A' c', e = .returned (.slice A' n c') ∧ Mod w' w0 (rowA 5 1 (.slice A' n c') n (u8s (l.take n)) * S) := by
  have r2 := Reads.pre r n h
  have e : (u8s l).take n = u8s (l.take n) := by simp [u8s, List.map_take]
  rw [e] at r2
  exact clone_bytes _ n c _ w w0 S m r2 (one_u8s _) (by omega)
def madeA (T : FileTab) : Asn := filesA T
theorem madeA_cons (g : Nat) (f : FileSt) (T : FileTab) : madeA ((g, f) :: T) = fileA g f * madeA T := rfl
theorem getElem_perm {α : Type} : ∀ (l : List α) (i : Nat) (h : i < l.length), (l[i] :: l.eraseIdx i).Perm l
  | [], _, h => by simp at h
  | _ :: _, 0, _ => List.Perm.refl _
  | a :: l, i + 1, h => (List.Perm.swap a (l[i]'(by simpa using h)) _).trans ((getElem_perm l i (by simpa using h)).cons a)
theorem perm_step {l left done : Dir} {i : Nat} (hi : i < left.length) (h : (done ++ left).Perm l) : (((left[i].1, left[i].2) :: done) ++ left.eraseIdx i).Perm l := by
  refine List.Perm.trans ?_ h
  have h1 : (left[i] :: left.eraseIdx i).Perm left := getElem_perm left i hi
  exact (List.perm_middle.symm).trans (h1.append_left done)
theorem mget_none_of {α : Type} {L : List (ByteArray × α)} {s : ByteArray} (h : s ∉ L.map (·.1)) : mget L s = none := by
  unfold mget
  have h0 : L.find? (fun p => decide (p.1 = s)) = none := List.find?_eq_none.2 fun p hp => by
    simp only [decide_eq_true_eq]
    exact fun e => h (by rw [← e]; exact List.mem_map_of_mem hp)
  rw [h0]; rfl
theorem dir_names (M : Made) : M.dir.map (·.1) = (M.map (·.1)).reverse := by unfold Made.dir; rw [List.map_reverse, List.map_map]; rfl
theorem made_none {l left done : Dir} {D : DiskSt} {keep : Nat} {M : Made} {i : Nat} (hi : i < left.length) (h : (done ++ left).Perm l) (hm : M.map (fun q => (q.1, q.2.2)) = done.map fun q => (q.1, keptOf D keep q.2)) (hn : (l.map (·.1)).Nodup) : mget M.dir left[i].1 = none := by
  apply mget_none_of
  rw [dir_names, List.mem_reverse]
  have e : M.map (·.1) = done.map (·.1) := by
    have := congrArg (List.map Prod.fst) hm
    rw [List.map_map, List.map_map] at this
    exact this
  rw [e]
  have h2 : ((done ++ left).map (·.1)).Nodup := (h.map _).nodup_iff.2 hn
  rw [List.map_append, List.nodup_append] at h2
  intro hx
  exact h2.2.2 _ hx _ (List.mem_map_of_mem (List.getElem_mem hi)) rfl
theorem min_kept (keep : Nat) (f : FileSt) (h : f.sure ≤ f.bytes.length) : (f.sure : Int) + min (keep : Int) ((f.bytes.length : Int) - (f.sure : Int)) = ((kept keep f).sure : Int) := by
  show _ = ((f.sure + min keep (f.bytes.length - f.sure) : Nat) : Int)
  omega
theorem kept_le (keep : Nat) (f : FileSt) (h : f.sure ≤ f.bytes.length) : (kept keep f).sure ≤ f.bytes.length := by
  show f.sure + min keep (f.bytes.length - f.sure) ≤ _
  omega
theorem kept_bytes (keep : Nat) (f : FileSt) : (kept keep f).bytes = f.bytes.take (kept keep f).sure := rfl
instance Take.made (T : FileTab) : Take (madeA T) madeA T emp := ⟨(sep_emp _).symm⟩
theorem fresh_made {w w0 : World} {S F : Asn} {T : FileTab} (m : Mod w w0 S) (t : Take S madeA T F) : fget T w.heap.size = none := fresh_file (T := T) (F := F) m ⟨t.eq⟩
theorem made_file {w w0 : World} {S S2 S3 S4 : Asn} {g : Nat} {v : Value} {T : FileTab} {sz : Int} {n : Nat} {xs : List Value} (m : Mod w w0 S) [t1 : Take S (blk g) (.cells #[.int .i64 sz, v] 90 (0, 0)) S2] [t2 : Take S2 (rowQ 5 1 v) (n, xs) S3] [t3 : Take S3 madeA T S4]
    (f : FileSt) (h1 : sz = (f.sure : Int)) (h2 : n = f.bytes.length) (h3 : xs = u8s f.bytes) : Mod w w0 (madeA ((g, f) :: T) * S4) := by
  subst h1 h2 h3
  have e : S = (blk g (.cells #[.int .i64 (f.sure : Int), v] 90 (0, 0)) * rowA 5 1 v f.bytes.length (u8s f.bytes)) * (madeA T * S4) := by
    rw [t1.eq, t2.eq, t3.eq, sep_assoc]; rfl
  rw [e] at m
  have m1 := Mod.shut (G := fun v : Value => blk g (.cells #[.int .i64 (f.sure : Int), v] 90 (0, 0)) * rowA 5 1 v f.bytes.length (u8s f.bytes)) v (m := m)
  rw [madeA_cons, sep_assoc]
  exact m1
theorem disk_shut_made {w w0 : World} {F : Asn} {p rn rs : Nat} {S1 S2 S3 S4 S5 : Asn} {sz : Int} {Ln Ls : Pairs} {T : FileTab} (m : Mod w w0 S1) [t1 : Take S1 (blk p) (.cells #[.int .i64 sz, .map (some rn), .map (some rs)] 50 (0, 0)) S2] [t2 : Take S2 (smap rn) Ln S3] [t3 : Take S3 (smap rs) Ls S4] [t4 : Take S4 madeA T S5]
    (D : DiskSt) (hok : DiskOk D) (h1 : sz = (D.size : Int)) (h2 : Ln = ptrs D.now) (h3 : Ls = ptrs D.sure) (h4 : T = D.files) (h5 : S5 = F) : Mod w w0 (diskA p D * F) :=
  disk_shut_eq m (t4 := ⟨t4.eq⟩) D hok h1 h2 h3 h4 h5
theorem fget_none_mem : ∀ (T : FileTab) (g : Nat), fget T g = none → g ∉ T.map (·.1)
  | [], _, _ => by simp
  | p :: l, g, h => by
    unfold fget at h
    by_cases hp : p.1 = g
    · rw [if_pos hp] at h; cases h
    · rw [if_neg hp] at h
      simp only [List.map_cons, List.mem_cons, not_or]
      exact ⟨fun e => hp e.symm, fget_none_mem l g h⟩
theorem fget_of_mem : ∀ (T : FileTab) (g : Nat) (f : FileSt), (g, f) ∈ T → (fget T g).isSome = true
  | [], _, _, h => by cases h
  | p :: l, g, f, h => by
    unfold fget
    by_cases hp : p.1 = g
    · rw [if_pos hp]; rfl
    · rw [if_neg hp]
      rcases List.mem_cons.1 h with h | h
      · exact absurd (by rw [← h]) hp
      · exact fget_of_mem l g f h
theorem dir_cons (q : ByteArray × Nat × FileSt) (M : Made) : Made.dir (q :: M) = M.dir ++ [(q.1, q.2.1)] := by simp [Made.dir]
theorem dir_ids (M : Made) : M.dir.map (·.2) = (M.map (·.2.1)).reverse := by unfold Made.dir; rw [List.map_reverse, List.map_map]; rfl
theorem kept_len (keep : Nat) (f : FileSt) (h : f.sure ≤ f.bytes.length) : (kept keep f).bytes.length = (kept keep f).sure := by
  rw [kept_bytes, List.length_take]; have := kept_le keep f h; omega
theorem made_ok {D : DiskSt} (hok : DiskOk D) {l : Dir} {M : Made} {keep : Nat} (hl : l.length ≤ 64) (hin : ∀ q ∈ l, (fget D.files q.2).isSome = true) (hnod : (l.map (·.1)).Nodup) (hnm : ∀ q ∈ l, nameOk q.1 = true)
    (hp : (M.map fun q => (q.1, q.2.2)).Perm (l.map fun q => (q.1, keptOf D keep q.2))) (hd : (M.map (·.2.1)).Nodup) : DiskOk ⟨D.size, M.dir, M.dir, M.tab⟩ := by
  have hof : ∀ x ∈ M, ∃ q ∈ l, ∃ f, fget D.files q.2 = some f ∧ x.1 = q.1 ∧ x.2.2 = kept keep f := by
    intro x hx
    have h1 := hp.subset (List.mem_map_of_mem (f := fun q : ByteArray × Nat × FileSt => (q.1, q.2.2)) hx)
    obtain ⟨q, hq, he⟩ := List.mem_map.1 h1
    obtain ⟨f, hf⟩ := Option.isSome_iff_exists.1 (hin q hq)
    injection he with e1 e2
    refine ⟨q, hq, f, hf, e1.symm, ?_⟩
    rw [← e2]; unfold keptOf; rw [hf]
  have hlen : M.dir.length ≤ 64 := by
    have := hp.length_eq
    simp only [List.length_map] at this
    simp [Made.dir, this, hl]
  have hnow : ∀ q ∈ M.dir, (fget M.tab q.2).isSome = true := by
    intro q hq
    obtain ⟨x, hx, rfl⟩ := List.mem_map.1 (List.mem_reverse.1 hq)
    exact fget_of_mem _ _ x.2.2 (List.mem_map_of_mem (f := fun q : ByteArray × Nat × FileSt => q.2) hx)
  have hnames : (M.dir.map (·.1)).Nodup := by
    rw [dir_names, (List.reverse_perm _).nodup_iff]
    have h2 := hp.map Prod.fst
    rw [List.map_map, List.map_map] at h2
    exact (h2.nodup_iff).2 hnod
  have hids : (M.dir.map (·.2)).Nodup := by rw [dir_ids, (List.reverse_perm _).nodup_iff]; exact hd
  have hnamed : ∀ q ∈ M.dir, nameOk q.1 = true := by
    intro q hq
    obtain ⟨x, hx, rfl⟩ := List.mem_map.1 (List.mem_reverse.1 hq)
    obtain ⟨q, hq, f, _, h1, _⟩ := hof x hx
    show nameOk x.1 = true
    rw [h1]; exact hnm q hq
  refine ⟨hok.pos, hok.most, hlen, hnow, hnow, fun x hx => ?_, fun x hx => ?_, hnames, hnames, hids, hids, hnamed, hnamed, hlen⟩
  · obtain ⟨y, hy, rfl⟩ := List.mem_map.1 hx
    obtain ⟨q, hq, f, hf, _, h2⟩ := hof y hy
    have h3 : f.bytes.length ≤ 1048576 := hok.len _ (mem_of_fget _ _ _ hf)
    rw [h2, kept_bytes, List.length_take]; omega
  · obtain ⟨y, hy, rfl⟩ := List.mem_map.1 hx
    obtain ⟨q, hq, f, hf, _, h2⟩ := hof y hy
    have h3 : f.sure ≤ f.bytes.length := hok.upto _ (mem_of_fget _ _ _ hf)
    rw [h2, kept_len keep f h3]; exact Nat.le_refl _
set_option maxHeartbeats 4000000 in
theorem fail_gen (p rl ro rn rs : Nat) (b : Bool) (hb : (b = true ∧ rl = rn ∧ ro = rs) ∨ (b = false ∧ rl = rs ∧ ro = rn)) (D : DiskSt) (hok : DiskOk D) (l o : Dir) (hl : l.length ≤ 64) (hin : ∀ q ∈ l, (fget D.files q.2).isSome = true) (hnod : (l.map (·.1)).Nodup) (hnm : ∀ q ∈ l, nameOk q.1 = true) (keep : Nat) (hk : keep ≤ 9223372036854775807) (w w0 : World) (F : Asn)
    (m : Mod w w0 (smap rl (ptrs l) * (blk p (.cells #[.int .i64 (D.size : Int), .map (some rn), .map (some rs)] 50 (0, 0)) * (smap ro (ptrs o) * (filesA D.files * F))))) :
    Calls Tryz.prog 11 #[.pointer (some ⟨p, 0, none⟩), .int .i64 (keep : Int), .bool b] w fun e w' => ∃ p', e = .returned (.tuple #[ptr p', .int .i64 0]) ∧
      ∃ M : Made, (M.map fun q => (q.1, q.2.2)).Perm (l.map fun q => (q.1, keptOf D keep q.2)) ∧ (M.map (·.2.1)).Nodup ∧
        Mod w' w0 (diskA p' ⟨D.size, M.dir, M.dir, M.tab⟩ * (smap rl (ptrs l) * (blk p (.cells #[.int .i64 (D.size : Int), .map (some rn), .map (some rs)] 50 (0, 0)) * (smap ro (ptrs o) * (filesA D.files * F))))) := by
  have hpos : (0 : Int) < D.size := by have := hok.pos; omega
  obtain ⟨q, hq⟩ : ∃ q : Nat × Nat, q = (rn, rs) := ⟨_, rfl⟩
  have Hq0 := Lib.hid hq
  clear hq
  rcases hb with ⟨rfl, rfl, rfl⟩ | ⟨rfl, rfl, rfl⟩
  all_goals
    go_enter Tryz.func11, Tryz.ntmps11
    go_wp2_with (go_at_call 35; refine (ask_none p D.size _ _ _ _ w0 _ hpos 0 (by simp)).mono ?_; rintro e w' ⟨rfl, _inst⟩)
    go_loopg [] l.length (fun gk wr => ∃ (left done : Dir) (M : Made) (cur : Option (ByteArray × Value)), Hid (gk = left.length) ∧ Hid ((done ++ left).Perm l) ∧ Hid (M.map (fun q => (q.1, q.2.2)) = done.map fun q => (q.1, keptOf D keep q.2)) ∧ Hid ((M.map (·.2.1)).Nodup) ∧ left.length ≤ 64 ∧
      Mod wr w0 (iterA (w'.heap.size + 1 + 1) rl (ptrs l) (ptrs left) cur * (blk (w'.heap.size + 1) (.cells #[.int .i64 (D.size : Int), .map (some w'.heap.size), .map none] 50 (0, 0)) * (smap w'.heap.size (ptrs M.dir) * (madeA M.tab *
        (blk p (.cells #[.int .i64 (D.size : Int), .map (some q.1), .map (some q.2)] 50 (0, 0)) * (smap ro (ptrs o) * (filesA D.files * F))))))))
    case atStart =>
      refine ⟨l, [], [], none, rfl, List.Perm.refl _, rfl, List.Pairwise.nil, hl, ?_⟩
      exact Mod.to (S := iterA (w'.heap.size + 1 + 1) rl (ptrs l) (ptrs l) none * (blk (w'.heap.size + 1) (.cells #[.int .i64 (D.size : Int), .map (some w'.heap.size), .map none] 50 (0, 0)) * (smap w'.heap.size [] * (emp * (blk p (.cells #[.int .i64 (D.size : Int), .map (some q.1), .map (some q.2)] 50 (0, 0)) * (smap ro (ptrs o) * (filesA D.files * F)))))))
        rfl (m := Mod.to (by rw [Hq0.out]))
    case round =>
      obtain ⟨left, done, M, cur, Hk, Hp, Hm, Hd, h64, m2⟩ := hrel
      have hq := Hq0.out
      clear Hq0
      subst hq
      simp only at m2
      go_wp2_with (refine wpList_next_smap rfl (.tmp 38) rfl rfl m2 ?_ ?_)
      · intro hl0 w3 m3
        have hleft : left = [] := by simpa [ptrs, onVals] using hl0
        subst hleft
        have hp0 : done.Perm l := by have := Hp.out; rwa [List.append_nil] at this
        have m4 := iter_end m3
        have hp1 : (M.map fun q => (q.1, q.2.2)).Perm (l.map fun q => (q.1, keptOf D keep q.2)) := by rw [Hm.out]; exact hp0.map _
        have Hq := Lib.hid hp1
        have Hk2 := Lib.hid (made_ok hok hl hin hnod hnm hp1 Hd.out)
        clear m2 m3 hp0 hp1 hl0
        go_wp2_with (go_at_call 37; refine (mapsClone_spec w'.heap.size (ptrs M.dir) _ w0 _ m4 inferInstance).mono ?_; rintro e w4 ⟨r', rfl, _m5⟩)
        go_ret2
        refine ⟨w'.heap.size + 1, rfl, M, Hq.out, Hd.out, ?_⟩
        exact disk_shut_made (w := w4.setCell ⟨w'.heap.size + 1, 2, none⟩ (.map (some r'))) (rn := w'.heap.size) (rs := r') inferInstance ⟨D.size, M.dir, M.dir, M.tab⟩ Hk2.out rfl rfl rfl rfl (by simp only [emp_sep])
      · intro i hi w2 m3
        have hi' : i < left.length := by simpa [ptrs, onVals] using hi
        have e1 : (ptrs left)[i] = (left[i].1, ptr left[i].2) := by simp [ptrs, onVals]
        have e2 : (ptrs left).eraseIdx i = ptrs (left.eraseIdx i) := by simp [ptrs, onVals, map_eraseIdx']
        rw [e1, e2] at m3
        rw [e1]
        have hmem : left[i] ∈ l := Hp.out.subset (List.mem_append_right _ (List.getElem_mem hi'))
        obtain ⟨f, hf⟩ := Option.isSome_iff_exists.1 (hin left[i] hmem)
        obtain ⟨B, c, m4⟩ := file_open m3 inferInstance hf
        have hflen : f.bytes.length ≤ 1048576 := hok.len _ (mem_of_fget _ _ _ hf)
        have hfsure : f.sure ≤ f.bytes.length := hok.upto _ (mem_of_fget _ _ _ hf)
        clear m2 m3
        have Hf := Lib.hid hf
        have Hp2 : Hid ((((left[i].1, left[i].2) :: done) ++ left.eraseIdx i).Perm l) := perm_step hi' Hp.out
        have Hno : Hid (mget M.dir left[i].1 = none) := made_none hi' Hp.out Hm.out hnod
        have Hke : Hid (keptOf D keep left[i].2 = kept keep f) := by show _ = _; unfold keptOf; rw [hf]
        clear hf e1 e2 hi hmem
        generalize left[i].2 = g at *
        generalize left[i].1 = nm at *
        go_wp2
        go_quiet (fail)
        rw [min_kept keep f hfsure]
        have hkle := kept_le keep f hfsure
        have hcap : f.bytes.length ≤ c := row_cap (e := 5) (A := B) (n := f.bytes.length) m4
        have Hkb : Hid ((kept keep f).bytes = f.bytes.take (kept keep f).sure) := kept_bytes keep f
        generalize hf2 : kept keep f = f2 at *
        have Hf2 := Lib.hid hf2
        clear hf2
        go_wp2
        have m5 : Mod (w2.drewN nq) w0 _ := Mod.drewN (m := m4) nq
        generalize w2.drewN nq = w3 at *
        clear m4
        have hb1 : (0 : Int) ≤ (f2.sure : Int) := by omega
        have hb2 : (f2.sure : Int) ≤ (c : Int) := by omega
        go_region_held3 (fun u => u.cell? ⟨w'.heap.size + 1, 1, none⟩ = some (.map (some w'.heap.size)) ∧ u.cell? ⟨g, 1, none⟩ = some (.slice B f.bytes.length c)) (refine ⟨?_, ?_⟩ <;> (rw [cell_of]; rfl))
          (first | (go_at_call 36; go_loud (refine (clone_pre B f2.sure _ f.bytes.length f.bytes _ w0 _ (Mod.drew (m := m5)) hkle hflen).mono ?_); rintro e w4 ⟨A', c', rfl, _m6⟩))
        have hfr : fget M.tab w4.heap.size = none := fresh_made _m6 inferInstance
        have m7 := file_shut (w := (w4.alloc (.cells #[.int .i64 (f2.sure : Int), .slice A' f2.sure c'] 90)).mapPut w'.heap.size nm (ptr w4.heap.size)) inferInstance Hf.out rfl f rfl rfl rfl
        rw [fset_same _ _ _ Hf.out] at m7
        have hfl : f2.bytes.length = f2.sure := by rw [Hkb.out, List.length_take]; omega
        have m8 := made_file (g := w4.heap.size) m7 f2 rfl hfl.symm (by rw [Hkb.out])
        have hdir : mput (ptrs M.dir) nm (ptr w4.heap.size) = ptrs (Made.dir ((nm, w4.heap.size, f2) :: M)) := by
          rw [dir_cons, ptrs, mput_onVals, mput_new Hno.out]; rfl
        rw [hdir] at m8
        have Hfr := Lib.hid hfr
        clear hfr m7 m5 _m6 hdir
        go_wp2
        go_roundg (left.eraseIdx i).length
        case measure => rw [Hk.out, List.length_eraseIdx_of_lt hi']; omega
        case rel =>
          refine ⟨left.eraseIdx i, (nm, g) :: done, (nm, w4.heap.size, f2) :: M, some (nm, ptr g), rfl, Hp2.out, ?_, ?_, ?_, ?_⟩
          · show (nm, f2) :: M.map (fun q => (q.1, q.2.2)) = (nm, keptOf D keep g) :: done.map fun q => (q.1, keptOf D keep q.2)
            rw [Hke.out, Hm.out]
          · show (w4.heap.size :: M.map (·.2.1)).Nodup
            refine List.nodup_cons.2 ⟨?_, Hd.out⟩
            have := fget_none_mem _ _ Hfr.out
            rw [Made.tab, List.map_map] at this
            exact this
          · rw [List.length_eraseIdx_of_lt hi']; omega
          · exact Mod.to (m := m8) (by simp only [emp_sep]; ac_rfl)
/-- Which names a failure leaves. -/
def namesLeft (D : DiskSt) (b : Bool) : Dir := if b then D.now else D.sure
theorem fail_ok (p : Nat) (D : DiskSt) (w w0 : World) (S F : Asn) (m : Mod w w0 S) (t : Take S (diskA p) D F) (keep : Nat) (b : Bool) (hk : keep ≤ 9223372036854775807) :
    Calls Tryz.prog 11 #[.pointer (some ⟨p, 0, none⟩), .int .i64 (keep : Int), .bool b] w fun e w' => ∃ p' M, e = .returned (.tuple #[ptr p', .int .i64 0]) ∧
      (M.map fun q => (q.1, q.2.2)).Perm ((namesLeft D b).map fun q => (q.1, keptOf D keep q.2)) ∧ (M.map (·.2.1)).Nodup ∧ DiskOk ⟨D.size, Made.dir M, Made.dir M, Made.tab M⟩ ∧ Mod w' w0 (diskA p' ⟨D.size, M.dir, M.dir, M.tab⟩ * S) := by
  obtain ⟨rn, rs, hok, m1⟩ := disk_open m t
  cases b
  · have m2 : Mod w w0 (smap rs (ptrs D.sure) * (blk p (.cells #[.int .i64 (D.size : Int), .map (some rn), .map (some rs)] 50 (0, 0)) * (smap rn (ptrs D.now) * (filesA D.files * F)))) := Mod.to (m := m1) (by ac_rfl)
    refine (fail_gen p rs rn rn rs false (.inr ⟨rfl, rfl, rfl⟩) D hok D.sure D.now hok.manyS hok.sure hok.keysS hok.namedS keep hk w w0 F m2).mono ?_
    rintro e w' ⟨p', rfl, M, h1, h2, m3⟩
    refine ⟨p', M, rfl, h1, h2, made_ok hok hok.manyS hok.sure hok.keysS hok.namedS h1 h2, ?_⟩
    rw [t.eq, sep_left_comm]
    exact disk_shut_eq m3 D hok rfl rfl rfl rfl (by simp only [emp_sep])
  · have m2 : Mod w w0 (smap rn (ptrs D.now) * (blk p (.cells #[.int .i64 (D.size : Int), .map (some rn), .map (some rs)] 50 (0, 0)) * (smap rs (ptrs D.sure) * (filesA D.files * F)))) := Mod.to (m := m1) (by ac_rfl)
    refine (fail_gen p rn rs rn rs true (.inl ⟨rfl, rfl, rfl⟩) D hok D.now D.sure hok.many hok.now hok.keys hok.named keep hk w w0 F m2).mono ?_
    rintro e w' ⟨p', rfl, M, h1, h2, m3⟩
    refine ⟨p', M, rfl, h1, h2, made_ok hok hok.many hok.now hok.keys hok.named h1 h2, ?_⟩
    rw [t.eq, sep_left_comm]
    exact disk_shut_eq m3 D hok rfl rfl rfl rfl (by simp only [emp_sep])
end Go.Proofs.YtmhlebpchllpbaaGreatDoor
namespace Go.Proofs.YtmhlebpchllpbaaGreatDoor
open Go.RowKit Go.Sl
attribute [local go_sem] cell_of frozen_of zero_names
/-- What '[]byte(s)' lays. -/
def strA (g : Nat) (s : ByteArray) (cap : Nat) (e : TypeId) (fr : Nat × Nat) : Asn := blk g (.cells (bytesRow s cap) e fr)
instance (priority := 2000) allocStr {w w0 : World} {S : Asn} {n cap : Nat} {s : ByteArray} {e : TypeId} {fr : Nat × Nat} [hn : HpSize w n] [m : Mod w w0 S] : Mod (w.alloc (.cells (bytesRow s cap) e fr)) w0 (strA n s cap e fr * S) := Mod.alloc (m := m) (hn := hn) _
theorem size_toList (s : ByteArray) : s.data.toList.length = s.size := by rw [Array.length_toList]; rfl
instance Reads.str (g : Nat) (s : ByteArray) (cap : Nat) (e : TypeId) (fr : Nat × Nat) : Reads (strA g s cap e fr) (some ⟨g, 0, none⟩) s.size (u8s s.data.toList) :=
  ⟨fun _ _ => by rw [length_u8s, size_toList], fun h hh _ => by
    refine ⟨_, rfl, rfl, fun j u hu => ⟨bytesRow s cap, e, fr, by rw [show h = Hp.one g (.cells (bytesRow s cap) e fr) from hh]; simp [Hp.one], ?_⟩⟩
    have hj : j < s.data.size := by
      have := (List.getElem?_eq_some_iff.1 hu).1
      rw [length_u8s, Array.length_toList] at this
      exact this
    simp only [Nat.zero_add]
    unfold bytesRow
    rw [Array.getElem?_append_left (by simpa using hj)]
    simp only [u8s, List.getElem?_map, Array.getElem?_toList] at hu
    simpa using hu⟩
theorem conv_sb (w : World) (s : ByteArray) : (convert 9 63 (.string s)).run Tryz.prog w = .ok (.slice (some ⟨w.heap.size, 0, none⟩) s.size (grownCap w s.size 0 5))
      (w.drew.alloc (.cells (bytesRow s (grownCap w s.size 0 5)) 5 ((bytesRow s (grownCap w s.size 0 5)).size, (bytesRow s (grownCap w s.size 0 5)).size + 1))) :=
  run_bytes_of_string w _ _ _ s (by kernel_rfl) (by kernel_rfl) (by kernel_rfl)
theorem conv_bs {w w0 : World} {S : Asn} {B : Option Addr} {n c : Nat} {l : List UInt8} [m : Mod w w0 S] [r : Reads S B n (u8s l)] : (convert 63 9 (.slice B n c)).run Tryz.prog w = .ok (.string ⟨l.toArray⟩) w := by
  have hlen := reads_len m r
  rw [length_u8s] at hlen
  cases B with
  | none =>
    have h0 : n = 0 := by
      rcases Nat.eq_zero_or_pos n with h | h
      · exact h
      · obtain ⟨ad, ha, _⟩ := reads_cell m r h; cases ha
    subst h0
    have hl : l = [] := List.eq_nil_of_length_eq_zero hlen
    subst hl
    exact run_convert_bytes_nil w 63 5 (by kernel_rfl) (by kernel_rfl) 0 c 9 (by kernel_rfl)
  | some ad =>
    subst hlen
    refine run_convert_bytes_back w 63 9 5 ad c l (by kernel_rfl) (by kernel_rfl) (by kernel_rfl) fun j hj => ?_
    obtain ⟨ad', ha, hs, hc⟩ := reads_cell m r (by omega)
    injection ha with ha
    subst ha
    rw [add_off ad j hs]
    exact hc j _ (by simp [u8s, hj])
theorem conv_nil (w : World) (n c : Nat) : (convert 63 9 (.slice none n c)).run Tryz.prog w = .ok (.string ⟨#[]⟩) w := run_convert_bytes_nil w 63 5 (by kernel_rfl) (by kernel_rfl) n c 9 (by kernel_rfl)
theorem conv_const (w : World) (C : Array Value) (n c g : Nat) [h : HpSize w g] : (convert 63 63 (.slice (some ⟨g, 0, none⟩) n c)).run Tryz.prog (w.alloc (.cells C 5)) = .ok (.slice (some ⟨g, 0, none⟩) n c) (w.alloc (.cells C 5 (C.size, C.size + 1))) :=
  Go.Joins.run_convert_bytes_const_at w 63 5 C n c g h.eq.symm (by kernel_rfl) (by kernel_rfl)
theorem info_u8 : ∃ i, Tryz.prog.info? 5 = some i ∧ i.zero = some (.int .u8 0) ∧ i.size = 1 ∧ i.bytes = 1 := by
  have h : (Tryz.prog.info? 5).map (fun i => (i.zero, i.size, i.bytes)) = some (some (.int .u8 0), 1, 1) := by kernel_rfl
  obtain ⟨i, hi, he⟩ := Option.map_eq_some_iff.1 h
  injection he with h1 h2
  injection h2 with h2 h3
  exact ⟨i, hi, h1, h2, h3⟩
theorem make_bytes (w : World) (n : Int) (h0 : 0 ≤ n) (h : n ≤ 281474976710656) : (Instr.makeSlice 63 (.int .i64 n) (.int .i64 n)).run Tryz.prog w = .ok (.slice (some ⟨w.heap.size, 0, none⟩) n.toNat n.toNat) (w.alloc (.cells (madeCells #[.int .u8 0] n.toNat) 5)) := by
  obtain ⟨i, hi, hz, hs, hb⟩ := info_u8
  have := run_make w 63 5 i (.int .u8 0) (by kernel_rfl) hi hz .i64 .i64 n n h0 (Int.le_refl n) (by rw [hb]; omega) (by omega)
  rw [this, hs, Nat.mul_one]
  rfl
attribute [local go_sem] conv_bs conv_nil
/-- The file at a name. -/
def fileAt (D : DiskSt) (name : ByteArray) : Option FileSt := if nameOk name then (mget D.now name).bind (fget D.files) else none
def allOf (D : DiskSt) (name : ByteArray) : List UInt8 := match fileAt D name with | some f => f.bytes | none => []
section
variable (p : Nat) (D : DiskSt) (name : ByteArray) (w w0 : World) (S F : Asn) (m : Mod w w0 S) (t : Take S (diskA p) D F) (hs : name.size ≤ 9223372036854775807)
include m t hs
end
/-! ### Rows of texts -/
theorem toList_inj {x y : ByteArray} (h : x.toList = y.toList) : x = y := by
  rw [ByteArray.toList_eq, ByteArray.toList_eq] at h
  have h2 : x.data = y.data := Array.toList_inj.1 h
  cases x; cases y; exact congrArg _ h2
theorem eql_same {xs ys : List ByteArray} : xs = ys ↔ xs.length = ys.length ∧ ∀ i (h1 : i < xs.length) (h2 : i < ys.length), xs[i] = ys[i] :=
  ⟨fun h => by subst h; exact ⟨rfl, fun _ _ _ => rfl⟩, fun ⟨h1, h2⟩ => List.ext_getElem h1 h2⟩
abbrev texts (l : List ByteArray) : List Value := l.map Value.string
theorem reads_text {w w0 : World} {S : Asn} {B : Option Addr} {n : Nat} {l : List ByteArray} (m : Mod w w0 S) (r : Reads S B n (texts l)) (hn : 0 < n) :
    ∃ b o, B = some ⟨b, o, none⟩ ∧ ∀ j (h : j < l.length), w.cell? ⟨b, o + j, none⟩ = some (.string l[j]) := by
  obtain ⟨ad, ha, hs, hc⟩ := reads_cell m r hn
  obtain ⟨b, o, sp⟩ := ad
  simp only at hs
  subst hs
  exact ⟨b, o, ha, fun j h => hc j _ (by simp [texts, h])⟩
theorem text_append (a b : ByteArray) : (⟨(a.data.toList ++ b.data.toList).toArray⟩ : ByteArray) = a ++ b := by
  apply toList_inj
  rw [ByteArray.toList_eq, ByteArray.toList_eq, ByteArray.data_append, Array.toList_append]
theorem text_extract (l : List UInt8) (i j : Nat) : ((⟨l.toArray⟩ : ByteArray).extract i j).toList = (l.drop i).take (j - i) := by
  rw [ByteArray.toList_eq, ByteArray.data_extract]
  simp [List.take_drop]
/-! ### How long texts are -/
def sizes : List ByteArray → Nat
  | [] => 0
  | s :: l => s.size + sizes l
theorem sizes_append (a b : List ByteArray) : sizes (a ++ b) = sizes a + sizes b := by
  induction a with
  | nil => simp [sizes]
  | cons x a ih => simp [sizes, ih, Nat.add_assoc]
/-- What the laws' TextsSize tells: all of it, as long as it goes through. -/
def textsSize : Nat → List ByteArray → Nat
  | n, [] => n
  | n, s :: l => if n ≤ 1048576 then textsSize (n + s.size) l else n
theorem textsSize_gt : ∀ (l : List ByteArray) (n : Nat), n ≤ textsSize n l ∧ (textsSize n l ≤ 1048576 → textsSize n l = n + sizes l)
  | [], n => ⟨Nat.le_refl _, fun _ => rfl⟩
  | s :: l, n => by
    unfold textsSize
    obtain ⟨h1, h2⟩ := textsSize_gt l (n + s.size)
    split
    · exact ⟨by omega, fun h => by rw [h2 h]; simp only [sizes]; omega⟩
    · exact ⟨Nat.le_refl _, fun h => by omega⟩
theorem nameOk_eq (s : ByteArray) : nameOk s = (!s.data.toList.isEmpty && decide (s.size ≤ 16) && (Lib.trimS s.data.toList mayBytes).isEmpty) := by
  unfold nameOk
  rw [ByteArray.toList_eq, ByteArray.toList_eq]
theorem reads_blk {F : Asn} {g n : Nat} {cs : Array Value} {e : TypeId} {fr : Nat × Nat} {xs : List Value} [h : Has F g (.cells cs e fr)] (hx : cs.toList = xs) (hn : xs.length = n) : Reads F (some ⟨g, 0, none⟩) n xs :=
  ⟨fun _ _ => hn, fun x hh _ => ⟨_, rfl, rfl, fun j u hu => ⟨cs, e, fr, h.has x hh, by rw [← hx] at hu; simpa using hu⟩⟩⟩
end Go.Proofs.YtmhlebpchllpbaaGreatDoor
namespace Go.Proofs.YtmhlebpchllpbaaGreatDoor
open Go.RowKit Go.Sl
attribute [local go_sem] cell_of frozen_of zero_names conv_const conv_bs conv_nil make_bytes
theorem made_one {M : Made} {n : ByteArray} {f : FileSt} (h : (M.map fun q => (q.1, q.2.2)).Perm [(n, f)]) : ∃ g, M = [(n, g, f)] := by
  have h1 := List.perm_singleton.1 h
  match M, h1 with
  | [(a, g, b)], h1 => simp only [List.map_cons, List.map_nil, List.cons.injEq, Prod.mk.injEq, and_true] at h1; exact ⟨g, by rw [h1.1, h1.2]⟩
theorem ok_a : nameOk ⟨#[97]⟩ = true := by rw [nameOk_eq]; decide
theorem ok_b : nameOk ⟨#[98]⟩ = true := by rw [nameOk_eq]; decide
theorem ok_A : nameOk ⟨#[65]⟩ = false := by rw [nameOk_eq]; decide
/-- A disk with one file, sure or not at all. -/
def one (n : Nat) (name : ByteArray) (g : Nat) (f : FileSt) (s : Dir) : DiskSt := ⟨n, [(name, g)], s, [(g, f)]⟩
theorem mget_one (name : ByteArray) (g : Nat) : mget [(name, g)] name = some g := by simp [mget]
theorem mget_ne {a b : ByteArray} (g : Nat) (h : b ≠ a) : mget [(b, g)] a = none := by simp [mget, h]
theorem fget_one (g : Nat) (f : FileSt) : fget [(g, f)] g = some f := by simp [fget]
theorem fset_one (g : Nat) (f f' : FileSt) : fset [(g, f)] g f' = [(g, f')] := by simp [fset]
theorem created_one (n : Nat) (name : ByteArray) (g : Nat) : created (newDisk n) name g = one n name g ⟨[], 0⟩ [] := by simp [created, newDisk, one, mput]
theorem left_one (n : Nat) (name : ByteArray) (g : Nat) (f : FileSt) (s : Dir) : leftOf (one n name g f s) = n - f.bytes.length := by simp [leftOf, one, total, fget]
theorem renamed_one (n : Nat) (a b : ByteArray) (g : Nat) (f : FileSt) (s : Dir) : renamed (one n a g f s) a b g = one n b g f s := by simp [renamed, one, mdel, mput]
theorem list_one (n : Nat) (name : ByteArray) (g : Nat) (f : FileSt) (s : Dir) : listOf (one n name g f s) = [name.data.toList] := by simp [listOf, one]
theorem fileAt_one (n : Nat) (name : ByteArray) (g : Nat) (f : FileSt) (s : Dir) (h : nameOk name = true) : fileAt (one n name g f s) name = some f := by simp [fileAt, h, one, mget_one, fget_one]
theorem allOf_one (n : Nat) (name : ByteArray) (g : Nat) (f : FileSt) (s : Dir) (h : nameOk name = true) : allOf (one n name g f s) name = f.bytes := by simp [allOf, fileAt_one n name g f s h]
theorem keptOf_one (n : Nat) (name : ByteArray) (g : Nat) (f : FileSt) (s : Dir) (keep : Nat) : keptOf (one n name g f s) keep g = kept keep f := by simp [keptOf, one, fget_one]
theorem dir_one (a : ByteArray) (g : Nat) (f : FileSt) (n : Nat) : (⟨n, Made.dir [(a, g, f)], Made.dir [(a, g, f)], Made.tab [(a, g, f)]⟩ : DiskSt) = one n a g f [(a, g)] := rfl
theorem texts_enc (s : ByteArray) : (List.map Go.Proofs.encStr [s.data.toList]) = texts [s] := by simp [Go.Proofs.encStr]
theorem append_one (n : Nat) (name : ByteArray) (g : Nat) (f f' : FileSt) (s : Dir) : ({ one n name g f s with files := fset (one n name g f s).files g f' } : DiskSt) = one n name g f' s := by simp [one, fset_one]
theorem names_one (n : Nat) (name : ByteArray) (g : Nat) (f : FileSt) (s : Dir) : ({ one n name g f s with sure := (one n name g f s).now } : DiskSt) = one n name g f [(name, g)] := rfl
theorem ok_ab : (nameOk ⟨#[97]⟩ && nameOk ⟨#[98]⟩) = true := by rw [ok_a, ok_b]; rfl
theorem fail_one (p n : Nat) (name : ByteArray) (g : Nat) (f : FileSt) (s : Dir) (w w0 : World) (S F : Asn) (m : Mod w w0 S) (t : Take S (diskA p) (one n name g f s) F) (keep : Nat) (b : Bool) (hk : keep ≤ 9223372036854775807) (name2 : ByteArray) (hl : namesLeft (one n name g f s) b = [(name2, g)]) (f2 : FileSt) (hf : kept keep f = f2) (k : Int) (hki : k = keep) :
    Calls Tryz.prog 11 #[.pointer (some ⟨p, 0, none⟩), .int .i64 k, .bool b] w fun e w' => ∃ p' g', e = .returned (.tuple #[ptr p', .int .i64 0]) ∧ Mod w' w0 (diskA p' (one n name2 g' f2 [(name2, g')]) * S) := by
  subst hki
  refine (fail_ok p (one n name g f s) w w0 S F m t keep b hk).mono ?_
  rintro e w' ⟨p', M, rfl, hM, _, _, m'⟩
  rw [hl] at hM
  simp only [List.map_cons, List.map_nil, keptOf_one, hf] at hM
  obtain ⟨g', rfl⟩ := made_one hM
  exact ⟨p', g', rfl, m'⟩
end Go.Proofs.YtmhlebpchllpbaaGreatDoor
namespace Go.Proofs.YtmhlebpchllpbaaGreatDoor
open Go.RowKit Go.Sl
/-- A disk with two files. -/
def pair (n : Nat) (a : ByteArray) (g : Nat) (f : FileSt) (b : ByteArray) (h : Nat) (f' : FileSt) (s : Dir) : DiskSt := ⟨n, [(a, g), (b, h)], s, [(h, f'), (g, f)]⟩
/-- .. whose first name was given to the second file. -/
def moved (n : Nat) (a : ByteArray) (g : Nat) (f : FileSt) (h : Nat) (f' : FileSt) (s : Dir) : DiskSt := ⟨n, [(a, h)], s, [(h, f'), (g, f)]⟩
section
variable {n : Nat} {a b : ByteArray} {g h : Nat} {f f' : FileSt} {s : Dir}
theorem fresh_one (hf : fget (one n a g f s).files h = none) : h ≠ g := fun e => by subst e; simp [one, fget] at hf
theorem created_pair (hab : a ≠ b) : created (one n a g f s) b h = pair n a g f b h ⟨[], 0⟩ s := by simp [created, one, pair, mput, hab]
theorem mget_pair1 : mget [(a, g), (b, h)] a = some g := by simp [mget]
theorem mget_pair2 (hab : a ≠ b) : mget [(a, g), (b, h)] b = some h := by simp [mget, hab]
theorem fget_pair1 (hg : h ≠ g) : fget [(h, f'), (g, f)] g = some f := by simp [fget, hg]
theorem fget_pair2 : fget [(h, f'), (g, f)] h = some f' := by simp [fget]
theorem put_pair1 (hg : h ≠ g) (f2 : FileSt) : ({ pair n a g f b h f' s with files := fset (pair n a g f b h f' s).files g f2 } : DiskSt) = pair n a g f2 b h f' s := by simp [pair, fset, hg]
theorem put_pair2 (f2 : FileSt) : ({ pair n a g f b h f' s with files := fset (pair n a g f b h f' s).files h f2 } : DiskSt) = pair n a g f b h f2 s := by simp [pair, fset]
theorem names_pair : ({ pair n a g f b h f' s with sure := (pair n a g f b h f' s).now } : DiskSt) = pair n a g f b h f' [(a, g), (b, h)] := rfl
theorem left_pair (hg : h ≠ g) : leftOf (pair n a g f b h f' s) = n - (f.bytes.length + f'.bytes.length) := by simp [leftOf, pair, total, fget, hg]
theorem renamed_pair (hab : a ≠ b) : renamed (pair n a g f b h f' s) b a h = moved n a g f h f' s := by simp [renamed, pair, moved, mdel, mput, hab]
theorem names_moved : ({ moved n a g f h f' s with sure := (moved n a g f h f' s).now } : DiskSt) = moved n a g f h f' [(a, h)] := rfl
theorem left_moved : leftOf (moved n a g f h f' s) = n - f'.bytes.length := by simp [leftOf, moved, total, fget]
theorem allOf_moved (ha : nameOk a = true) : allOf (moved n a g f h f' s) a = f'.bytes := by simp [allOf, fileAt, ha, moved, mget, fget]
theorem allOf_pair1 (ha : nameOk a = true) (hg : h ≠ g) : allOf (pair n a g f b h f' s) a = f.bytes := by simp [allOf, fileAt, ha, pair, mget, fget, hg]
theorem allOf_pair2 (hb : nameOk b = true) (hab : a ≠ b) : allOf (pair n a g f b h f' s) b = f'.bytes := by simp [allOf, fileAt, hb, pair, mget, fget, hab]
end
theorem kept_sure (keep : Nat) (l : List UInt8) : kept keep ⟨l, l.length⟩ = ⟨l, l.length⟩ := by simp [kept]
/-! ### What a failure leaves -/
theorem fget_mem : ∀ (T : FileTab) (g : Nat) (f : FileSt), (T.map (·.1)).Nodup → (g, f) ∈ T → fget T g = some f
  | [], _, _, _, h => by cases h
  | p :: l, g, f, hn, h => by
    simp only [List.map_cons, List.nodup_cons] at hn
    unfold fget
    rcases List.mem_cons.1 h with h | h
    · rw [← h, if_pos rfl]
    · rw [if_neg (fun e => hn.1 (by rw [e]; exact List.mem_map_of_mem (f := (·.1)) h))]
      exact fget_mem l g f hn.2 h
theorem mget_mem {α : Type} {L : List (ByteArray × α)} {s : ByteArray} {v : α} (hn : (L.map (·.1)).Nodup) (h : (s, v) ∈ L) : mget L s = some v := by
  induction L with
  | nil => cases h
  | cons p l ih =>
    simp only [List.map_cons, List.nodup_cons] at hn
    rcases List.mem_cons.1 h with h | h
    · rw [← h]; simp [mget]
    · have hne : p.1 ≠ s := fun e => hn.1 (by rw [e]; exact List.mem_map_of_mem (f := (·.1)) h)
      have := ih hn.2 h
      unfold mget at this ⊢
      rw [List.find?_cons_of_neg (by simpa using hne)]
      exact this
theorem made_at {M : Made} {n : Nat} (hok : DiskOk ⟨n, M.dir, M.dir, M.tab⟩) (hd : (M.map (·.2.1)).Nodup) {name : ByteArray} {f : FileSt} (h : (name, f) ∈ M.map fun q => (q.1, q.2.2)) : fileAt ⟨n, M.dir, M.dir, M.tab⟩ name = some f := by
  obtain ⟨q, hq, he⟩ := List.mem_map.1 h
  injection he with e1 e2
  subst e1; subst e2
  have hdir : (q.1, q.2.1) ∈ M.dir := List.mem_reverse.2 (List.mem_map_of_mem (f := fun q : ByteArray × Nat × FileSt => (q.1, q.2.1)) hq)
  have h1 : mget M.dir q.1 = some q.2.1 := mget_mem hok.keys hdir
  have h2 : fget M.tab q.2.1 = some q.2.2 := fget_mem _ _ _ (by unfold Made.tab; rw [List.map_map]; exact hd) (List.mem_map_of_mem (f := fun q : ByteArray × Nat × FileSt => q.2) hq)
  have hname : nameOk q.1 = true := hok.named _ hdir
  show (if nameOk q.1 then (mget M.dir q.1).bind (fget M.tab) else none) = _
  rw [if_pos hname, h1]; exact h2
theorem made_all {M : Made} {n : Nat} (hok : DiskOk ⟨n, M.dir, M.dir, M.tab⟩) (hd : (M.map (·.2.1)).Nodup) {name : ByteArray} {f : FileSt} (h : (name, f) ∈ M.map fun q => (q.1, q.2.2)) : allOf ⟨n, M.dir, M.dir, M.tab⟩ name = f.bytes := by
  unfold allOf; rw [made_at hok hd h]
theorem made_count {M : Made} {n : Nat} : (listOf ⟨n, M.dir, M.dir, M.tab⟩).length = M.length := by rw [length_listOf]; simp [Made.dir]
/-! ### A region that draws its order: all that is said of the heap stays -/
structure Held (w0 : World) (S : Asn) where
  world : World
  mod : Mod world w0 S
instance Mod.held {w0 : World} {S : Asn} (s : Held w0 S) : Mod s.world w0 S := s.mod
theorem Held.some {w w0 : World} {S : Asn} (m : Mod w w0 S) : Nonempty (Held w0 S) := ⟨⟨w, m⟩⟩
theorem wp_region_mod {P : Program} {id : Nat} {Q : Exit → Act → World → Prop} {a : Act} {w w0 : World} {S : Asn} {l : List Oper} (m : Mod w w0 S) (hm : P.follows .mixedOrders = true) (hB : Region.lexB .any l.toArray = true)
    (h : wpQuiet P l.toArray (fun w' => ∃ s : Held w0 S, w' = s.world) (fun a' => ∀ w', (∃ s : Held w0 S, w' = s.world) → Q .normal a' w') l a) : (Code.region id l.toArray true).wp P Q a w :=
  wp_region_quiet (C := fun w' => ∃ s : Held w0 S, w' = s.world) hm hB ⟨⟨w.drew, Mod.drew (m := m)⟩, rfl⟩ (by simpa using h)
theorem quiet_call {P : Program} {f : FuncId} {args : Array Value} {w w0 : World} {S : Asn} {v : Value} (h : Calls P f args w fun e w' => e = .returned v ∧ Mod w' w0 S) : Calls P f args w fun e w' => e = .returned v ∧ ∃ s : Held w0 S, w' = s.world :=
  h.mono fun _ w' ⟨he, hm⟩ => ⟨he, ⟨w', hm⟩, rfl⟩
/-- Append of a text's bytes. -/
theorem append_str (p : Nat) (D : DiskSt) (name : ByteArray) (w w0 : World) (S F : Asn) (m : Mod w w0 S) (t : Take S (diskA p) D F) (hs : name.size ≤ 9223372036854775807) (A : Option Addr) (c : Nat) (b : ByteArray) [r : Reads F A b.size (u8s b.data.toList)] (g : Nat) (f : FileSt) (hn : nameOk name = true) (hg : mget D.now name = some g) (hf : fget D.files g = some f) (h1 : b.size ≤ leftOf D) (h2 : f.bytes.length + b.size ≤ 1048576) :
    Calls Tryz.prog 50 #[.pointer (some ⟨p, 0, none⟩), .string name, .slice A b.size c] w fun e w' => e = .returned (.int .i64 0) ∧ Mod w' w0 (diskA p { D with files := fset D.files g ⟨f.bytes ++ b.data.toList, f.sure⟩ } * F) := by
  have e := size_toList b
  rw [← e] at r h1 h2 ⊢
  exact append_ok p D name w w0 S F m t hs A c b.data.toList g f hn hg hf h1 h2
theorem fail_single (p : Nat) (D : DiskSt) (w w0 : World) (S F : Asn) (m : Mod w w0 S) (t : Take S (diskA p) D F) (keep : Nat) (b : Bool) (hk : keep ≤ 9223372036854775807) (name2 : ByteArray) (g : Nat) (hl : namesLeft D b = [(name2, g)]) (f2 : FileSt) (hf : keptOf D keep g = f2) :
    Calls Tryz.prog 11 #[.pointer (some ⟨p, 0, none⟩), .int .i64 (keep : Int), .bool b] w fun e w' => ∃ p' g', e = .returned (.tuple #[ptr p', .int .i64 0]) ∧ Mod w' w0 (diskA p' (one D.size name2 g' f2 [(name2, g')]) * S) := by
  refine (fail_ok p D w w0 S F m t keep b hk).mono ?_
  rintro e w' ⟨p', M, rfl, hM, _, _, m'⟩
  rw [hl] at hM
  simp only [List.map_cons, List.map_nil, hf] at hM
  obtain ⟨g', rfl⟩ := made_one hM
  exact ⟨p', g', rfl, m'⟩
theorem keptOf_moved {n : Nat} {a : ByteArray} {g h : Nat} {f f' : FileSt} {s : Dir} (keep : Nat) : keptOf (moved n a g f h f' s) keep h = kept keep f' := by simp [keptOf, moved, fget]
theorem keptOf_moved1 {n : Nat} {a : ByteArray} {g h : Nat} {f f' : FileSt} {s : Dir} (hg : h ≠ g) (keep : Nat) : keptOf (moved n a g f h f' s) keep g = kept keep f := by simp [keptOf, moved, fget, hg]
end Go.Proofs.YtmhlebpchllpbaaGreatDoor
namespace Go.Proofs.YtmhlebpchllpbaaGreatDoor
open Go.ChangeShapes Go.WideShapes Go.ChangeAt Go.RowKit
theorem okWide_array {P : Program} {w : World} {r : Reach} {base n : Nat} {t e : TypeId} {v : Value} (ht : P.underlying t = some (.array n e)) (h : Value.okWide P w r base t v) : ∃ cs, v = .agg cs ∧ cs.size = P.cellsOf t := by
  simp only [Value.okWide, ht] at h
  obtain ⟨cs, h1, h2, _⟩ := h
  exact ⟨cs, h1, h2⟩
set_option maxRecDepth 100000 in
theorem cells_string : Tryz.prog.cellsOf 9 = 1 := by kernel_rfl
set_option maxRecDepth 100000 in
theorem cells_u16 : Tryz.prog.cellsOf 22 = 1 := by kernel_rfl
theorem wf_u16 {k : Int} (h : (Lit.int .u16 k).wf = true) : ∃ n : Nat, k = n ∧ n < 65536 := by
  have h1 : IntKind.u16.min ≤ k ∧ k ≤ IntKind.u16.max := by simpa [Lit.wf] using h
  have e1 : IntKind.u16.min = 0 := by decide
  have e2 : IntKind.u16.max = 65535 := by decide
  rw [e1, e2] at h1
  exact ⟨k.toNat, by omega, by omega⟩
theorem wf_u8 {k : Int} (h : (Lit.int .u8 k).wf = true) : ∃ n : Nat, k = n ∧ n < 256 := by
  have h1 : IntKind.u8.min ≤ k ∧ k ≤ IntKind.u8.max := by simpa [Lit.wf] using h
  have e1 : IntKind.u8.min = 0 := by decide
  have e2 : IntKind.u8.max = 255 := by decide
  rw [e1, e2] at h1
  exact ⟨k.toNat, by omega, by omega⟩
end Go.Proofs.YtmhlebpchllpbaaGreatDoor
namespace Go.Proofs.YtmhlebpchllpbaaGreatDoor
open Go.RowKit Go.Sl
theorem total_append (T : FileTab) : ∀ (L M : Dir), total T (L ++ M) = total T L + total T M
  | [], _ => by simp [total]
  | q :: L, M => by simp only [List.cons_append, total]; rw [total_append T L M]; omega
theorem total_sub (T : FileTab) {L M : Dir} (h : L.Sublist M) : total T L ≤ total T M := by
  induction h with
  | slnil => exact Nat.le_refl _
  | cons a _ ih => simp only [total]; omega
  | cons_cons a _ ih => simp only [total]; omega
theorem total_fset_not (T : FileTab) (g : Nat) (f' : FileSt) : ∀ (L : Dir), g ∉ L.map (·.2) → total (fset T g f') L = total T L
  | [], _ => rfl
  | q :: L, h => by
    simp only [List.map_cons, List.mem_cons, not_or] at h
    simp only [total]
    rw [fget_fset_other T g q.2 f' (fun e => h.1 e.symm), total_fset_not T g f' L h.2]
theorem total_fset (T : FileTab) (g : Nat) (f f' : FileSt) (hf : fget T g = some f) : ∀ (L : Dir) (s : ByteArray), (L.map (·.2)).Nodup → (s, g) ∈ L → total (fset T g f') L + f.bytes.length = total T L + f'.bytes.length
  | [], _, _, h => by cases h
  | q :: L, s, hn, h => by
    simp only [List.map_cons, List.nodup_cons] at hn
    simp only [total]
    rcases List.mem_cons.1 h with rfl | h
    · rw [total_fset_not T g f' L hn.1, fget_fset_same T g f f' hf, hf]
      simp only [Option.map_some, Option.getD_some]; omega
    · have hne : q.2 ≠ g := fun e => hn.1 (by rw [e]; exact List.mem_map_of_mem (f := (·.2)) h)
      have := total_fset T g f f' hf L s hn.2 h
      rw [fget_fset_other T g q.2 f' hne]; omega
theorem total_cons (T : FileTab) (g : Nat) (f : FileSt) : ∀ (L : Dir), g ∉ L.map (·.2) → total ((g, f) :: T) L = total T L
  | [], _ => rfl
  | q :: L, h => by
    simp only [List.map_cons, List.mem_cons, not_or] at h
    simp only [total]
    rw [total_cons T g f L h.2, show fget ((g, f) :: T) q.2 = fget T q.2 from by simp only [fget]; rw [if_neg h.1]]
theorem total_mput_le (T : FileTab) (s : ByteArray) (g : Nat) (L : Dir) : total T (mput L s g) ≤ total T L + ((fget T g).map (·.bytes.length)).getD 0 * (if L.any (fun p => decide (p.1 = s)) then (L.filter (fun p => decide (p.1 = s))).length else 1) := by
  unfold mput
  split
  · rename_i h
    clear h
    induction L with
    | nil => simp [total]
    | cons q L ih =>
      simp only [List.map_cons, total]
      by_cases hq : q.1 = s
      · simp only [hq, if_true, decide_true, List.filter_cons_of_pos, List.length_cons, Nat.mul_add, Nat.mul_one]; omega
      · simp only [hq, if_false]
        rw [List.filter_cons_of_neg (by simpa using hq)]; omega
  · rw [total_append]; simp [total]
theorem filter_one {L : Dir} (hk : (L.map (·.1)).Nodup) (s : ByteArray) : (L.filter (fun p => decide (p.1 = s))).length ≤ 1 := by
  induction L with
  | nil => simp
  | cons q L ih =>
    simp only [List.map_cons, List.nodup_cons] at hk
    by_cases hq : q.1 = s
    · have : L.filter (fun p => decide (p.1 = s)) = [] := List.filter_eq_nil_iff.2 fun p hp e => hk.1 (by rw [hq, ← of_decide_eq_true e]; exact List.mem_map_of_mem (f := (·.1)) hp)
      rw [List.filter_cons_of_pos (by simp [hq]), this]; simp
    · rw [List.filter_cons_of_neg (by simp [hq])]; exact ih hk.2
theorem total_mput (T : FileTab) (s : ByteArray) (g : Nat) {L : Dir} (hk : (L.map (·.1)).Nodup) : total T (mput L s g) ≤ total T L + ((fget T g).map (·.bytes.length)).getD 0 := by
  refine Nat.le_trans (total_mput_le T s g L) (Nat.add_le_add_left ?_ _)
  refine Nat.le_trans (Nat.mul_le_mul_left _ (m := 1) ?_) (by simp)
  split
  · exact filter_one hk s
  · exact Nat.le_refl _
theorem total_mdel (T : FileTab) (s : ByteArray) (g : Nat) : ∀ {L : Dir}, (L.map (·.1)).Nodup → mget L s = some g → total T (mdel L s) + ((fget T g).map (·.bytes.length)).getD 0 = total T L
  | [], _, h => by cases h
  | q :: L, hk, h => by
    simp only [List.map_cons, List.nodup_cons] at hk
    by_cases hq : q.1 = s
    · have e : mdel L s = L := by
        unfold mdel
        refine List.filter_eq_self.2 fun p hp => ?_
        have : p.1 ≠ s := fun e => hk.1 (by rw [hq, ← e]; exact List.mem_map_of_mem (f := (·.1)) hp)
        simp [this]
      have e2 : mdel (q :: L) s = L := by
        unfold mdel at e ⊢
        rw [List.filter_cons_of_neg (by simp [hq]), e]
      have e3 : q.2 = g := by
        unfold mget at h
        rw [List.find?_cons_of_pos (by simp [hq])] at h
        injection h
      rw [e2]; simp only [total]; rw [e3]; omega
    · have h' : mget L s = some g := by
        unfold mget at h ⊢
        rw [List.find?_cons_of_neg (by simp [hq])] at h
        exact h
      have := total_mdel T s g hk.2 h'
      have e2 : mdel (q :: L) s = q :: mdel L s := by unfold mdel; rw [List.filter_cons_of_pos (by simp [hq])]
      rw [e2]; simp only [total]; omega
def used (D : DiskSt) : Nat := total D.files D.now
theorem left_used (D : DiskSt) : leftOf D = D.size - used D := rfl
theorem used_put {D : DiskSt} (hok : DiskOk D) {name : ByteArray} {g : Nat} {f : FileSt} (hg : mget D.now name = some g) (hf : fget D.files g = some f) (f' : FileSt) : used { D with files := fset D.files g f' } + f.bytes.length = used D + f'.bytes.length :=
  total_fset D.files g f f' hf D.now name hok.inj (mem_of_mget hg)
theorem used_created {D : DiskSt} (hok : DiskOk D) {name : ByteArray} {g : Nat} (hg : mget D.now name = none) (hfr : fget D.files g = none) : used (created D name g) = used D := by
  have hnot : g ∉ D.now.map (·.2) := fun hm => by
    obtain ⟨q, hq, e⟩ := List.mem_map.1 hm
    have := hok.now q hq
    rw [e, hfr] at this; cases this
  unfold used created
  rw [mput_new hg, total_append, total_cons _ _ _ _ hnot]
  simp [total, fget]
theorem used_renamed {D : DiskSt} (hok : DiskOk D) {a b : ByteArray} {g : Nat} (hg : mget D.now a = some g) : used (renamed D a b g) ≤ used D := by
  have h1 := total_mput D.files b g (removed_ok hok a).keys
  have h2 := total_mdel D.files a g hok.keys hg
  unfold used renamed
  exact Nat.le_trans h1 (Nat.le_of_eq h2)
/-! ### Other files -/
theorem other_id {D : DiskSt} (hok : DiskOk D) {a b : ByteArray} {g h : Nat} (hab : a ≠ b) (hg : mget D.now a = some g) (hh : mget D.now b = some h) : h ≠ g := fun e => by
  subst e
  have h1 := mem_of_mget hg
  have h2 := mem_of_mget hh
  obtain ⟨i, hi, hie⟩ := List.mem_iff_getElem.1 h1
  obtain ⟨j, hj, hje⟩ := List.mem_iff_getElem.1 h2
  have hij : i = j := by
    have := List.getElem_inj (xs := D.now.map (·.2)) (h₀ := by simpa using hi) (h₁ := by simpa using hj) hok.inj
    simp only [List.getElem_map, hie, hje] at this
    exact this.1 trivial
  subst hij
  rw [hie] at hje
  exact hab (congrArg Prod.fst hje)
/-! ### Weak contracts -/
section
variable (p : Nat) (D : DiskSt) (name : ByteArray) (w w0 : World) (S F : Asn) (m : Mod w w0 S) (t : Take S (diskA p) D F) (hs : name.size ≤ 9223372036854775807)
theorem stays {w w0 : World} {S F : Asn} {p : Nat} {D : DiskSt} (t : Take S (diskA p) D F) (m : Mod w w0 S) : Mod w w0 (diskA p D * F) := by rw [← t.eq]; exact m
include m t hs
theorem create_any : Calls Tryz.prog 48 #[.pointer (some ⟨p, 0, none⟩), .string name] w fun e w' => ∃ r D', e = .returned (.int .i64 r) ∧ D'.size = D.size ∧ used D' ≤ used D ∧ Mod w' w0 (diskA p D' * F) := by
  have hok : DiskOk D := by obtain ⟨rn, rs, hok, _⟩ := disk_open m t; exact hok
  cases hn : nameOk name with
  | false => exact (create_arg p D name w w0 S F m t hs hn).mono fun e w' ⟨h1, h2⟩ => ⟨_, D, h1, rfl, Nat.le_refl _, stays t h2⟩
  | true =>
    cases hg : mget D.now name with
    | some g => exact (create_there p D name w w0 S F m t hs g hn hg).mono fun e w' ⟨h1, h2⟩ => ⟨_, D, h1, rfl, Nat.le_refl _, stays t h2⟩
    | none =>
      rcases Nat.lt_or_ge D.now.length 64 with h | h
      · exact (create_ok p D name w w0 S F m t hs hn hg h).mono fun e w' ⟨g, h1, h2, h3⟩ => ⟨_, created D name g, h1, rfl, Nat.le_of_eq (used_created hok hg h2), h3⟩
      · exact (create_full p D name w w0 S F m t hs hn hg (Nat.le_antisymm hok.many h)).mono fun e w' ⟨h1, h2⟩ => ⟨_, D, h1, rfl, Nat.le_refl _, stays t h2⟩
theorem remove_any : Calls Tryz.prog 45 #[.pointer (some ⟨p, 0, none⟩), .string name] w fun e w' => ∃ r D', e = .returned (.int .i64 r) ∧ D'.size = D.size ∧ used D' ≤ used D ∧ (nameOk name = true → mget D'.now name = none) ∧ Mod w' w0 (diskA p D' * F) := by
  cases hn : nameOk name with
  | false => exact (remove_arg p D name w w0 S F m t hs hn).mono fun e w' ⟨h1, h2⟩ => ⟨_, D, h1, rfl, Nat.le_refl _, (fun h => by cases h), stays t h2⟩
  | true =>
    cases hg : mget D.now name with
    | some g => exact (remove_ok p D name w w0 S F m t hs g hn hg).mono fun e w' ⟨h1, h2⟩ => ⟨_, { D with now := mdel D.now name }, h1, rfl, total_sub _ (mdel_sub _ _), (fun _ => by
        show mget (mdel D.now name) name = none
        refine mget_none_of fun hm => ?_
        obtain ⟨q, hq, hqe⟩ := List.mem_map.1 hm
        have := (List.mem_filter.1 hq).2
        simp [hqe] at this), h2⟩
    | none => exact (remove_none p D name w w0 S F m t hs hn hg).mono fun e w' ⟨h1, h2⟩ => ⟨_, D, h1, rfl, Nat.le_refl _, (fun _ => hg), stays t h2⟩
theorem rename_any (to : ByteArray) (hs2 : to.size ≤ 9223372036854775807) : Calls Tryz.prog 54 #[.pointer (some ⟨p, 0, none⟩), .string name, .string to] w fun e w' => ∃ r D', e = .returned (.int .i64 r) ∧ D'.size = D.size ∧ used D' ≤ used D ∧ Mod w' w0 (diskA p D' * F) := by
  have hok : DiskOk D := by obtain ⟨rn, rs, hok, _⟩ := disk_open m t; exact hok
  cases hn : (nameOk name && nameOk to) with
  | false => exact (rename_arg p D name w w0 S F m t hs to hs2 hn).mono fun e w' ⟨h1, h2⟩ => ⟨_, D, h1, rfl, Nat.le_refl _, stays t h2⟩
  | true =>
    cases hg : mget D.now name with
    | some g => exact (rename_ok p D name w w0 S F m t hs to hs2 g hn hg).mono fun e w' ⟨h1, h2⟩ => ⟨_, renamed D name to g, h1, rfl, used_renamed hok hg, h2⟩
    | none => exact (rename_none p D name w w0 S F m t hs to hs2 hn hg).mono fun e w' ⟨h1, h2⟩ => ⟨_, D, h1, rfl, Nat.le_refl _, stays t h2⟩
theorem append_any (A : Option Addr) (c : Nat) (b : List UInt8) [r : Reads F A b.length (u8s b)] (hb : b.length ≤ 9223372036854775807) : Calls Tryz.prog 50 #[.pointer (some ⟨p, 0, none⟩), .string name, .slice A b.length c] w fun e w' => ∃ r D', e = .returned (.int .i64 r) ∧ D'.size = D.size ∧ used D' ≤ used D + b.length ∧ Mod w' w0 (diskA p D' * F) := by
  have hok : DiskOk D := by obtain ⟨rn, rs, hok, _⟩ := disk_open m t; exact hok
  cases hn : nameOk name with
  | false => exact (append_arg p D name w w0 S F m t hs A b.length c hn).mono fun e w' ⟨h1, h2⟩ => ⟨_, D, h1, rfl, Nat.le_add_right _ _, stays t h2⟩
  | true =>
    cases hg : mget D.now name with
    | none => exact (append_none p D name w w0 S F m t hs A b.length c hn hg).mono fun e w' ⟨h1, h2⟩ => ⟨_, D, h1, rfl, Nat.le_add_right _ _, stays t h2⟩
    | some g =>
      obtain ⟨f, hf⟩ := Option.isSome_iff_exists.1 (hok.now _ (mem_of_mget hg))
      by_cases h : leftOf D < b.length ∨ 1048576 < f.bytes.length + b.length
      · exact (append_full p D name w w0 S F m t hs A b.length c g f hn hg hf hb h).mono fun e w' ⟨h1, h2⟩ => ⟨_, D, h1, rfl, Nat.le_add_right _ _, stays t h2⟩
      · have h1 : b.length ≤ leftOf D := by omega
        have h2 : f.bytes.length + b.length ≤ 1048576 := by omega
        refine (append_ok p D name w w0 S F m t hs A c b g f hn hg hf h1 h2).mono fun e w' ⟨h1, h2⟩ => ⟨_, { D with files := fset D.files g ⟨f.bytes ++ b, f.sure⟩ }, h1, rfl, ?_, h2⟩
        have := used_put hok hg hf ⟨f.bytes ++ b, f.sure⟩
        simp only [List.length_append] at this
        omega
theorem sync_any : Calls Tryz.prog 52 #[.pointer (some ⟨p, 0, none⟩), .string name] w fun e w' => ∃ r D', e = .returned (.int .i64 r) ∧ D'.size = D.size ∧ used D' ≤ used D ∧ Mod w' w0 (diskA p D' * F) := by
  have hok : DiskOk D := by obtain ⟨rn, rs, hok, _⟩ := disk_open m t; exact hok
  cases hn : nameOk name with
  | false => exact (sync_arg p D name w w0 S F m t hs hn).mono fun e w' ⟨h1, h2⟩ => ⟨_, D, h1, rfl, Nat.le_refl _, stays t h2⟩
  | true =>
    cases hg : mget D.now name with
    | none => exact (sync_none p D name w w0 S F m t hs hn hg).mono fun e w' ⟨h1, h2⟩ => ⟨_, D, h1, rfl, Nat.le_refl _, stays t h2⟩
    | some g =>
      obtain ⟨f, hf⟩ := Option.isSome_iff_exists.1 (hok.now _ (mem_of_mget hg))
      refine (sync_some p D name w w0 S F m t hs g f hn hg hf).mono fun e w' ⟨h1, h2⟩ => ⟨_, { D with files := fset D.files g ⟨f.bytes, f.bytes.length⟩ }, h1, rfl, ?_, h2⟩
      have := used_put hok hg hf ⟨f.bytes, f.bytes.length⟩
      simp only at this
      omega
end
end Go.Proofs.YtmhlebpchllpbaaGreatDoor
namespace Go.Proofs.YtmhlebpchllpbaaGreatDoor
open Go.RowKit Go.Sl Go.Maps
theorem drop_mid {w w0 : World} {A X R : Asn} (m : Mod w w0 (A * (X * R))) : Mod w w0 (A * R) := by
  have : Mod w w0 (X * (A * R)) := Mod.to (m := m) (sep_left_comm _ _ _)
  exact Mod.drop (A := X)
theorem swap_two {w w0 : World} {A X R : Asn} (m : Mod w w0 (A * (X * R))) : Mod w w0 (X * (A * R)) := Mod.to (m := m) (sep_left_comm _ _ _)
/-- Two parts to the front, the rest forgotten but for G. -/
theorem repack {w w0 : World} {S F1 F2 G : Asn} {V1 V2 : Type} (p1 : V1 → Asn) (p2 : V2 → Asn) {v1 : V1} {v2 : V2} (m : Mod w w0 S) [t1 : Take S p1 v1 F1] [t2 : Take F1 p2 v2 F2] [s : Sub F2 G] : Mod w w0 (p1 v1 * (p2 v2 * G)) := by
  have e : S = (p1 v1 * p2 v2) * F2 := by rw [t1.eq, t2.eq, sep_assoc]
  rw [e] at m
  rw [← sep_assoc]
  refine ⟨m.os, m.tape, m.output, ?_⟩
  have h := m.says
  rw [sep_assoc] at h ⊢
  obtain ⟨a, b, h1, h2, h3, h4⟩ := h
  exact ⟨a, b, h1, h2, h3, s.sub _ h4⟩
theorem repack1 {w w0 : World} {S F1 G : Asn} {V1 : Type} (p1 : V1 → Asn) {v1 : V1} (m : Mod w w0 S) [t1 : Take S p1 v1 F1] [s : Sub F1 G] : Mod w w0 (p1 v1 * G) := by
  rw [t1.eq] at m
  refine ⟨m.os, m.tape, m.output, ?_⟩
  have h := m.says
  rw [sep_assoc] at h ⊢
  obtain ⟨a, b, h1, h2, h3, h4⟩ := h
  exact ⟨a, b, h1, h2, h3, s.sub _ h4⟩
theorem repack3 {w w0 : World} {S F1 F2 F3 G : Asn} {V1 V2 V3 : Type} (p1 : V1 → Asn) (p2 : V2 → Asn) (p3 : V3 → Asn) {v1 : V1} {v2 : V2} {v3 : V3} (m : Mod w w0 S) [t1 : Take S p1 v1 F1] [t2 : Take F1 p2 v2 F2] [t3 : Take F2 p3 v3 F3] [s : Sub F3 G] : Mod w w0 (p1 v1 * (p2 v2 * (p3 v3 * G))) := by
  have e : S = (p1 v1 * (p2 v2 * p3 v3)) * F3 := by rw [t1.eq, t2.eq, t3.eq, sep_assoc, sep_assoc]
  rw [e] at m
  have e3 : p1 v1 * (p2 v2 * (p3 v3 * G)) = (p1 v1 * (p2 v2 * p3 v3)) * G := by rw [sep_assoc, sep_assoc]
  rw [e3]
  refine ⟨m.os, m.tape, m.output, ?_⟩
  have h := m.says
  rw [sep_assoc] at h ⊢
  obtain ⟨a, b, h1, h2, h3, h4⟩ := h
  exact ⟨a, b, h1, h2, h3, s.sub _ h4⟩
theorem row_none {w w0 : World} {S : Asn} {e : TypeId} (m : Mod w w0 S) : Mod w w0 (rowA e 1 (.slice none 0 0) 0 [] * S) := by
  refine Mod.conv (S := emp * S) (m := by rw [emp_sep]; exact m) fun _ h => sep_imp (A := emp) (fun y hy => ?_) h
  have hy : y = Hp.none := hy
  subst hy; exact rowA_nil _ _
theorem append_len (p : Nat) (D : DiskSt) (name : ByteArray) (w w0 : World) (S F : Asn) (m : Mod w w0 S) (t : Take S (diskA p) D F) (hs : name.size ≤ 9223372036854775807) (A : Option Addr) (k c : Nat) (b : List UInt8) (hb : b.length = k) [r : Reads F A k (u8s b)] (g : Nat) (f : FileSt) (hn : nameOk name = true) (hg : mget D.now name = some g) (hf : fget D.files g = some f) (h1 : k ≤ leftOf D) (h2 : f.bytes.length + k ≤ 1048576) :
    Calls Tryz.prog 50 #[.pointer (some ⟨p, 0, none⟩), .string name, .slice A k c] w fun e w' => e = .returned (.int .i64 0) ∧ Mod w' w0 (diskA p { D with files := fset D.files g ⟨f.bytes ++ b, f.sure⟩ } * F) := by
  subst hb
  exact append_ok p D name w w0 S F m t hs A c b g f hn hg hf h1 h2
structure LeftOf (D : DiskSt) (keep : Nat) (b : Bool) (D' : DiskSt) : Prop where
  size : D'.size = D.size
  ok : DiskOk D'
  both : D'.sure = D'.now
  names : (D'.now.map (·.1)).Perm ((namesLeft D b).map (·.1))
  file : ∀ q ∈ namesLeft D b, ∃ g, mget D'.now q.1 = some g ∧ fget D'.files g = some (keptOf D keep q.2)
theorem fail_left (p : Nat) (D : DiskSt) (w w0 : World) (S F : Asn) (m : Mod w w0 S) (t : Take S (diskA p) D F) (keep : Nat) (b : Bool) (hk : keep ≤ 9223372036854775807) (k : Int) (hki : k = keep) :
    Calls Tryz.prog 11 #[.pointer (some ⟨p, 0, none⟩), .int .i64 k, .bool b] w fun e w' => ∃ p' D', e = .returned (.tuple #[ptr p', .int .i64 0]) ∧ LeftOf D keep b D' ∧ Mod w' w0 (diskA p' D' * S) := by
  subst hki
  refine (fail_ok p D w w0 S F m t keep b hk).mono ?_
  rintro e w' ⟨p', M, rfl, hM, hd, hok, m'⟩
  refine ⟨p', ⟨D.size, M.dir, M.dir, M.tab⟩, rfl, ⟨rfl, hok, rfl, ?_, fun q hq => ?_⟩, m'⟩
  · have h1 := hM.map (·.1)
    rw [List.map_map, List.map_map] at h1
    rw [dir_names]
    exact (List.reverse_perm _).trans h1
  · have h1 : (q.1, keptOf D keep q.2) ∈ M.map fun q => (q.1, q.2.2) := hM.symm.subset (List.mem_map_of_mem (f := fun q : ByteArray × Nat => (q.1, keptOf D keep q.2)) hq)
    obtain ⟨r, hr, he⟩ := List.mem_map.1 h1
    injection he with e1 e2
    rw [← e1, ← e2]
    have hdir : (r.1, r.2.1) ∈ M.dir := List.mem_reverse.2 (List.mem_map_of_mem (f := fun q : ByteArray × Nat × FileSt => (q.1, q.2.1)) hr)
    exact ⟨r.2.1, mget_mem hok.keys hdir, fget_mem _ _ _ (by unfold Made.tab; rw [List.map_map]; exact hd) (List.mem_map_of_mem (f := fun q : ByteArray × Nat × FileSt => q.2) hr)⟩
theorem allOf_at {D : DiskSt} {name : ByteArray} {g : Nat} {f : FileSt} (hn : nameOk name = true) (hg : mget D.now name = some g) (hf : fget D.files g = some f) : allOf D name = f.bytes := by
  simp [allOf, fileAt, hn, hg, hf]
theorem LeftOf.all {D D' : DiskSt} {keep : Nat} {b : Bool} (h : LeftOf D keep b D') {name : ByteArray} {g : Nat} (hn : nameOk name = true) (hg : (name, g) ∈ namesLeft D b) : allOf D' name = (keptOf D keep g).bytes := by
  obtain ⟨g', h1, h2⟩ := h.file _ hg
  exact allOf_at hn h1 h2
theorem LeftOf.list {D D' : DiskSt} {keep : Nat} {b : Bool} (h : LeftOf D keep b D') : listOf D' = ((namesLeft D b).map (·.1.data.toList)).mergeSort leB := by
  unfold listOf
  refine mergeSort_of_perm ?_
  have := h.names.map (fun s : ByteArray => s.data.toList)
  rw [List.map_map, List.map_map] at this
  exact this
theorem keptOf_some {D : DiskSt} {g : Nat} {f : FileSt} (h : fget D.files g = some f) (keep : Nat) : keptOf D keep g = kept keep f := by unfold keptOf; rw [h]
end Go.Proofs.YtmhlebpchllpbaaGreatDoor
