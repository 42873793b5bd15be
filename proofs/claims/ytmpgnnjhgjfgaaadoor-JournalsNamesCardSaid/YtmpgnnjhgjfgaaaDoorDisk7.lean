/- The walk of the disk's function Fail: a contract over the small separation logic; the conditions are in each theorem. -/
import Derived.Test.YtmpgnnjhgjfgaaaDoorDisk6
import Derived.Deep.QuietTactic
import Derived.BigQuiet
import Derived.Deep.RegionHeld3
namespace Go.Proofs.YtmpgnnjhgjfgaaaDoor
open Go.RowKit Go.Sl
attribute [local go_sem] cell_of frozen_of zero_names
theorem fail_arg (p : Nat) (D : DiskSt) (w w0 : World) (S F : Asn) (m : Mod w w0 S) (t : Take S (diskA p) D F) (keep : Int) (b : Bool) (hk : keep < 0) :
    Calls Tryd.prog 23 #[.pointer (some ⟨p, 0, none⟩), .int .i64 keep, .bool b] w fun e w' => e = .returned (.tuple #[.pointer none, .int .i64 1]) ∧ Mod w' w0 S := by
  obtain ⟨rn, rs, hok, m1⟩ := disk_open m t
  clear m
  have hpos : (0 : Int) < D.size := by have := hok.pos; omega
  go_enter Tryd.func23, Tryd.ntmps23
  go_wp2_with (go_at_call 41; refine (ask_none p D.size _ _ _ _ w0 _ hpos 1 (by simp; omega)).mono ?_; rintro e w' ⟨rfl, _inst⟩)
  go_ret2
  exact ⟨rfl, fset_back t _inst hok rfl⟩
/-- What is kept of a file. -/
def kept (keep : Nat) (f : FileSt) : FileSt := ⟨f.bytes.take (f.sure + min keep (f.bytes.length - f.sure)), f.sure + min keep (f.bytes.length - f.sure)⟩
def keptOf (D : DiskSt) (keep : Nat) (g : Nat) : FileSt := match fget D.files g with | some f => kept keep f | none => ⟨[], 0⟩
/-- The new disk's names and files, out of what was made so far, the last one first. -/
abbrev Made := List (ByteArray × Nat × FileSt)
def Made.dir (M : Made) : Dir := (M.map fun q => (q.1, q.2.1)).reverse
def Made.tab (M : Made) : FileTab := M.map (·.2)
theorem clone_pre (B : Option Addr) (n c len : Nat) (l : List UInt8) (w w0 : World) (S : Asn) (m : Mod w w0 S) [r : Reads S B len (u8s l)] (h : n ≤ len) (hk : len ≤ 1048576) :
    Calls Tryd.prog 38 #[.slice B n c] w fun e w' => ∃ A' c', e = .returned (.slice A' n c') ∧ Mod w' w0 (rowA 5 1 (.slice A' n c') n (u8s (l.take n)) * S) := by
  have r2 := Reads.pre r n h
  have e : (u8s l).take n = u8s (l.take n) := by simp [u8s, List.map_take]
  rw [e] at r2
  exact clone_bytes _ n c _ w w0 S m r2 (one_u8s _) (by omega)
def madeA (T : FileTab) : Asn := filesA T
theorem madeA_cons (g : Nat) (f : FileSt) (T : FileTab) : madeA ((g, f) :: T) = fileA g f * madeA T := rfl
theorem getElem_perm {α : Type} : ∀ (l : List α) (i : Nat) (h : i < l.length), (l[i] :: l.eraseIdx i).Perm l
  | [], _, h => by simp at h
  | _ :: _, 0, _ => List.Perm.refl _
  | a :: l, i + 1, h => (List.Perm.swap a (l[i]'(by simpa using h)) _).trans ((getElem_perm l i (by simpa using h)).cons a)
theorem perm_step {l left done : Dir} {i : Nat} (hi : i < left.length) (h : (done ++ left).Perm l) : (((left[i].1, left[i].2) :: done) ++ left.eraseIdx i).Perm l := by
  refine List.Perm.trans ?_ h
  have h1 : (left[i] :: left.eraseIdx i).Perm left := getElem_perm left i hi
  exact (List.perm_middle.symm).trans (h1.append_left done)
theorem mget_none_of {α : Type} {L : List (ByteArray × α)} {s : ByteArray} (h : s ∉ L.map (·.1)) : mget L s = none := by
  unfold mget
  have h0 : L.find? (fun p => decide (p.1 = s)) = none := List.find?_eq_none.2 fun p hp => by
    simp only [decide_eq_true_eq]
    exact fun e => h (by rw [← e]; exact List.mem_map_of_mem hp)
  rw [h0]; rfl
theorem dir_names (M : Made) : M.dir.map (·.1) = (M.map (·.1)).reverse := by unfold Made.dir; rw [List.map_reverse, List.map_map]; rfl
theorem made_none {l left done : Dir} {D : DiskSt} {keep : Nat} {M : Made} {i : Nat} (hi : i < left.length) (h : (done ++ left).Perm l) (hm : M.map (fun q => (q.1, q.2.2)) = done.map fun q => (q.1, keptOf D keep q.2)) (hn : (l.map (·.1)).Nodup) : mget M.dir left[i].1 = none := by
  apply mget_none_of
  rw [dir_names, List.mem_reverse]
  have e : M.map (·.1) = done.map (·.1) := by
    have := congrArg (List.map Prod.fst) hm
    rw [List.map_map, List.map_map] at this
    exact this
  rw [e]
  have h2 : ((done ++ left).map (·.1)).Nodup := (h.map _).nodup_iff.2 hn
  rw [List.map_append, List.nodup_append] at h2
  intro hx
  exact h2.2.2 _ hx _ (List.mem_map_of_mem (List.getElem_mem hi)) rfl
theorem min_kept (keep : Nat) (f : FileSt) (h : f.sure ≤ f.bytes.length) : (f.sure : Int) + min (keep : Int) ((f.bytes.length : Int) - (f.sure : Int)) = ((kept keep f).sure : Int) := by
  show _ = ((f.sure + min keep (f.bytes.length - f.sure) : Nat) : Int)
  omega
theorem kept_le (keep : Nat) (f : FileSt) (h : f.sure ≤ f.bytes.length) : (kept keep f).sure ≤ f.bytes.length := by
  show f.sure + min keep (f.bytes.length - f.sure) ≤ _
  omega
theorem kept_bytes (keep : Nat) (f : FileSt) : (kept keep f).bytes = f.bytes.take (kept keep f).sure := rfl
instance Take.made (T : FileTab) : Take (madeA T) madeA T emp := ⟨(sep_emp _).symm⟩
theorem fresh_made {w w0 : World} {S F : Asn} {T : FileTab} (m : Mod w w0 S) (t : Take S madeA T F) : fget T w.heap.size = none := fresh_file (T := T) (F := F) m ⟨t.eq⟩
theorem made_file {w w0 : World} {S S2 S3 S4 : Asn} {g : Nat} {v : Value} {T : FileTab} {sz : Int} {n : Nat} {xs : List Value} (m : Mod w w0 S) [t1 : Take S (blk g) (.cells #[.int .i64 sz, v] 79 (0, 0)) S2] [t2 : Take S2 (rowQ 5 1 v) (n, xs) S3] [t3 : Take S3 madeA T S4]
    (f : FileSt) (h1 : sz = (f.sure : Int)) (h2 : n = f.bytes.length) (h3 : xs = u8s f.bytes) : Mod w w0 (madeA ((g, f) :: T) * S4) := by
  subst h1 h2 h3
  have e : S = (blk g (.cells #[.int .i64 (f.sure : Int), v] 79 (0, 0)) * rowA 5 1 v f.bytes.length (u8s f.bytes)) * (madeA T * S4) := by
    rw [t1.eq, t2.eq, t3.eq, sep_assoc]; rfl
  rw [e] at m
  have m1 := Mod.shut (G := fun v : Value => blk g (.cells #[.int .i64 (f.sure : Int), v] 79 (0, 0)) * rowA 5 1 v f.bytes.length (u8s f.bytes)) v (m := m)
  rw [madeA_cons, sep_assoc]
  exact m1
theorem disk_shut_made {w w0 : World} {F : Asn} {p rn rs : Nat} {S1 S2 S3 S4 S5 : Asn} {sz : Int} {Ln Ls : Pairs} {T : FileTab} (m : Mod w w0 S1) [t1 : Take S1 (blk p) (.cells #[.int .i64 sz, .map (some rn), .map (some rs)] 84 (0, 0)) S2] [t2 : Take S2 (smap rn) Ln S3] [t3 : Take S3 (smap rs) Ls S4] [t4 : Take S4 madeA T S5]
    (D : DiskSt) (hok : DiskOk D) (h1 : sz = (D.size : Int)) (h2 : Ln = ptrs D.now) (h3 : Ls = ptrs D.sure) (h4 : T = D.files) (h5 : S5 = F) : Mod w w0 (diskA p D * F) :=
  disk_shut_eq m (t4 := ⟨t4.eq⟩) D hok h1 h2 h3 h4 h5
theorem fget_none_mem : ∀ (T : FileTab) (g : Nat), fget T g = none → g ∉ T.map (·.1)
  | [], _, _ => by simp
  | p :: l, g, h => by
    unfold fget at h
    by_cases hp : p.1 = g
    · rw [if_pos hp] at h; cases h
    · rw [if_neg hp] at h
      simp only [List.map_cons, List.mem_cons, not_or]
      exact ⟨fun e => hp e.symm, fget_none_mem l g h⟩
theorem fget_of_mem : ∀ (T : FileTab) (g : Nat) (f : FileSt), (g, f) ∈ T → (fget T g).isSome = true
  | [], _, _, h => by cases h
  | p :: l, g, f, h => by
    unfold fget
    by_cases hp : p.1 = g
    · rw [if_pos hp]; rfl
    · rw [if_neg hp]
      rcases List.mem_cons.1 h with h | h
      · exact absurd (by rw [← h]) hp
      · exact fget_of_mem l g f h
theorem dir_cons (q : ByteArray × Nat × FileSt) (M : Made) : Made.dir (q :: M) = M.dir ++ [(q.1, q.2.1)] := by simp [Made.dir]
theorem dir_ids (M : Made) : M.dir.map (·.2) = (M.map (·.2.1)).reverse := by unfold Made.dir; rw [List.map_reverse, List.map_map]; rfl
theorem kept_len (keep : Nat) (f : FileSt) (h : f.sure ≤ f.bytes.length) : (kept keep f).bytes.length = (kept keep f).sure := by
  rw [kept_bytes, List.length_take]; have := kept_le keep f h; omega
theorem made_ok {D : DiskSt} (hok : DiskOk D) {l : Dir} {M : Made} {keep : Nat} (hl : l.length ≤ 64) (hin : ∀ q ∈ l, (fget D.files q.2).isSome = true) (hnod : (l.map (·.1)).Nodup) (hnm : ∀ q ∈ l, nameOk q.1 = true)
    (hp : (M.map fun q => (q.1, q.2.2)).Perm (l.map fun q => (q.1, keptOf D keep q.2))) (hd : (M.map (·.2.1)).Nodup) : DiskOk ⟨D.size, M.dir, M.dir, M.tab⟩ := by
  have hof : ∀ x ∈ M, ∃ q ∈ l, ∃ f, fget D.files q.2 = some f ∧ x.1 = q.1 ∧ x.2.2 = kept keep f := by
    intro x hx
    have h1 := hp.subset (List.mem_map_of_mem (f := fun q : ByteArray × Nat × FileSt => (q.1, q.2.2)) hx)
    obtain ⟨q, hq, he⟩ := List.mem_map.1 h1
    obtain ⟨f, hf⟩ := Option.isSome_iff_exists.1 (hin q hq)
    injection he with e1 e2
    refine ⟨q, hq, f, hf, e1.symm, ?_⟩
    rw [← e2]; unfold keptOf; rw [hf]
  have hlen : M.dir.length ≤ 64 := by
    have := hp.length_eq
    simp only [List.length_map] at this
    simp [Made.dir, this, hl]
  have hnow : ∀ q ∈ M.dir, (fget M.tab q.2).isSome = true := by
    intro q hq
    obtain ⟨x, hx, rfl⟩ := List.mem_map.1 (List.mem_reverse.1 hq)
    exact fget_of_mem _ _ x.2.2 (List.mem_map_of_mem (f := fun q : ByteArray × Nat × FileSt => q.2) hx)
  have hnames : (M.dir.map (·.1)).Nodup := by
    rw [dir_names, (List.reverse_perm _).nodup_iff]
    have h2 := hp.map Prod.fst
    rw [List.map_map, List.map_map] at h2
    exact (h2.nodup_iff).2 hnod
  have hids : (M.dir.map (·.2)).Nodup := by rw [dir_ids, (List.reverse_perm _).nodup_iff]; exact hd
  have hnamed : ∀ q ∈ M.dir, nameOk q.1 = true := by
    intro q hq
    obtain ⟨x, hx, rfl⟩ := List.mem_map.1 (List.mem_reverse.1 hq)
    obtain ⟨q, hq, f, _, h1, _⟩ := hof x hx
    show nameOk x.1 = true
    rw [h1]; exact hnm q hq
  refine ⟨hok.pos, hok.most, hlen, hnow, hnow, fun x hx => ?_, fun x hx => ?_, hnames, hnames, hids, hids, hnamed, hnamed, hlen⟩
  · obtain ⟨y, hy, rfl⟩ := List.mem_map.1 hx
    obtain ⟨q, hq, f, hf, _, h2⟩ := hof y hy
    have h3 : f.bytes.length ≤ 1048576 := hok.len _ (mem_of_fget _ _ _ hf)
    rw [h2, kept_bytes, List.length_take]; omega
  · obtain ⟨y, hy, rfl⟩ := List.mem_map.1 hx
    obtain ⟨q, hq, f, hf, _, h2⟩ := hof y hy
    have h3 : f.sure ≤ f.bytes.length := hok.upto _ (mem_of_fget _ _ _ hf)
    rw [h2, kept_len keep f h3]; exact Nat.le_refl _
set_option maxHeartbeats 4000000 in
theorem fail_gen (p rl ro rn rs : Nat) (b : Bool) (hb : (b = true ∧ rl = rn ∧ ro = rs) ∨ (b = false ∧ rl = rs ∧ ro = rn)) (D : DiskSt) (hok : DiskOk D) (l o : Dir) (hl : l.length ≤ 64) (hin : ∀ q ∈ l, (fget D.files q.2).isSome = true) (hnod : (l.map (·.1)).Nodup) (hnm : ∀ q ∈ l, nameOk q.1 = true) (keep : Nat) (hk : keep ≤ 9223372036854775807) (w w0 : World) (F : Asn)
    (m : Mod w w0 (smap rl (ptrs l) * (blk p (.cells #[.int .i64 (D.size : Int), .map (some rn), .map (some rs)] 84 (0, 0)) * (smap ro (ptrs o) * (filesA D.files * F))))) :
    Calls Tryd.prog 23 #[.pointer (some ⟨p, 0, none⟩), .int .i64 (keep : Int), .bool b] w fun e w' => ∃ p', e = .returned (.tuple #[ptr p', .int .i64 0]) ∧
      ∃ M : Made, (M.map fun q => (q.1, q.2.2)).Perm (l.map fun q => (q.1, keptOf D keep q.2)) ∧ (M.map (·.2.1)).Nodup ∧
        Mod w' w0 (diskA p' ⟨D.size, M.dir, M.dir, M.tab⟩ * (smap rl (ptrs l) * (blk p (.cells #[.int .i64 (D.size : Int), .map (some rn), .map (some rs)] 84 (0, 0)) * (smap ro (ptrs o) * (filesA D.files * F))))) := by
  have hpos : (0 : Int) < D.size := by have := hok.pos; omega
  obtain ⟨q, hq⟩ : ∃ q : Nat × Nat, q = (rn, rs) := ⟨_, rfl⟩
  have Hq0 := Lib.hid hq
  clear hq
  rcases hb with ⟨rfl, rfl, rfl⟩ | ⟨rfl, rfl, rfl⟩
  all_goals
    go_enter Tryd.func23, Tryd.ntmps23
    go_wp2_with (go_at_call 41; refine (ask_none p D.size _ _ _ _ w0 _ hpos 0 (by simp)).mono ?_; rintro e w' ⟨rfl, _inst⟩)
    go_loopg [] l.length (fun gk wr => ∃ (left done : Dir) (M : Made) (cur : Option (ByteArray × Value)), Hid (gk = left.length) ∧ Hid ((done ++ left).Perm l) ∧ Hid (M.map (fun q => (q.1, q.2.2)) = done.map fun q => (q.1, keptOf D keep q.2)) ∧ Hid ((M.map (·.2.1)).Nodup) ∧ left.length ≤ 64 ∧
      Mod wr w0 (iterA (w'.heap.size + 1 + 1) rl (ptrs l) (ptrs left) cur * (blk (w'.heap.size + 1) (.cells #[.int .i64 (D.size : Int), .map (some w'.heap.size), .map none] 84 (0, 0)) * (smap w'.heap.size (ptrs M.dir) * (madeA M.tab *
        (blk p (.cells #[.int .i64 (D.size : Int), .map (some q.1), .map (some q.2)] 84 (0, 0)) * (smap ro (ptrs o) * (filesA D.files * F))))))))
    case atStart =>
      refine ⟨l, [], [], none, rfl, List.Perm.refl _, rfl, List.Pairwise.nil, hl, ?_⟩
      exact Mod.to (S := iterA (w'.heap.size + 1 + 1) rl (ptrs l) (ptrs l) none * (blk (w'.heap.size + 1) (.cells #[.int .i64 (D.size : Int), .map (some w'.heap.size), .map none] 84 (0, 0)) * (smap w'.heap.size [] * (emp * (blk p (.cells #[.int .i64 (D.size : Int), .map (some q.1), .map (some q.2)] 84 (0, 0)) * (smap ro (ptrs o) * (filesA D.files * F)))))))
        rfl (m := Mod.to (by rw [Hq0.out]))
    case round =>
      obtain ⟨left, done, M, cur, Hk, Hp, Hm, Hd, h64, m2⟩ := hrel
      have hq := Hq0.out
      clear Hq0
      subst hq
      simp only at m2
      go_wp2_with (refine wpList_next_smap rfl (.tmp 38) rfl rfl m2 ?_ ?_)
      · intro hl0 w3 m3
        have hleft : left = [] := by simpa [ptrs, onVals] using hl0
        subst hleft
        have hp0 : done.Perm l := by have := Hp.out; rwa [List.append_nil] at this
        have m4 := iter_end m3
        have hp1 : (M.map fun q => (q.1, q.2.2)).Perm (l.map fun q => (q.1, keptOf D keep q.2)) := by rw [Hm.out]; exact hp0.map _
        have Hq := Lib.hid hp1
        have Hk2 := Lib.hid (made_ok hok hl hin hnod hnm hp1 Hd.out)
        clear m2 m3 hp0 hp1 hl0
        go_wp2_with (go_at_call 42; refine (mapsClone_spec w'.heap.size (ptrs M.dir) _ w0 _ m4 inferInstance).mono ?_; rintro e w4 ⟨r', rfl, _m5⟩)
        go_ret2
        refine ⟨w'.heap.size + 1, rfl, M, Hq.out, Hd.out, ?_⟩
        exact disk_shut_made (w := w4.setCell ⟨w'.heap.size + 1, 2, none⟩ (.map (some r'))) (rn := w'.heap.size) (rs := r') inferInstance ⟨D.size, M.dir, M.dir, M.tab⟩ Hk2.out rfl rfl rfl rfl (by simp only [emp_sep])
      · intro i hi w2 m3
        have hi' : i < left.length := by simpa [ptrs, onVals] using hi
        have e1 : (ptrs left)[i] = (left[i].1, ptr left[i].2) := by simp [ptrs, onVals]
        have e2 : (ptrs left).eraseIdx i = ptrs (left.eraseIdx i) := by simp [ptrs, onVals, map_eraseIdx']
        rw [e1, e2] at m3
        rw [e1]
        have hmem : left[i] ∈ l := Hp.out.subset (List.mem_append_right _ (List.getElem_mem hi'))
        obtain ⟨f, hf⟩ := Option.isSome_iff_exists.1 (hin left[i] hmem)
        obtain ⟨B, c, m4⟩ := file_open m3 inferInstance hf
        have hflen : f.bytes.length ≤ 1048576 := hok.len _ (mem_of_fget _ _ _ hf)
        have hfsure : f.sure ≤ f.bytes.length := hok.upto _ (mem_of_fget _ _ _ hf)
        clear m2 m3
        have Hf := Lib.hid hf
        have Hp2 : Hid ((((left[i].1, left[i].2) :: done) ++ left.eraseIdx i).Perm l) := perm_step hi' Hp.out
        have Hno : Hid (mget M.dir left[i].1 = none) := made_none hi' Hp.out Hm.out hnod
        have Hke : Hid (keptOf D keep left[i].2 = kept keep f) := by show _ = _; unfold keptOf; rw [hf]
        clear hf e1 e2 hi hmem
        generalize left[i].2 = g at *
        generalize left[i].1 = nm at *
        go_wp2
        go_quiet (fail)
        rw [min_kept keep f hfsure]
        have hkle := kept_le keep f hfsure
        have hcap : f.bytes.length ≤ c := row_cap (e := 5) (A := B) (n := f.bytes.length) m4
        have Hkb : Hid ((kept keep f).bytes = f.bytes.take (kept keep f).sure) := kept_bytes keep f
        generalize hf2 : kept keep f = f2 at *
        have Hf2 := Lib.hid hf2
        clear hf2
        go_wp2
        have m5 : Mod (w2.drewN nq) w0 _ := Mod.drewN (m := m4) nq
        generalize w2.drewN nq = w3 at *
        clear m4
        have hb1 : (0 : Int) ≤ (f2.sure : Int) := by omega
        have hb2 : (f2.sure : Int) ≤ (c : Int) := by omega
        go_region_held3 (fun u => u.cell? ⟨w'.heap.size + 1, 1, none⟩ = some (.map (some w'.heap.size)) ∧ u.cell? ⟨g, 1, none⟩ = some (.slice B f.bytes.length c)) (refine ⟨?_, ?_⟩ <;> (rw [cell_of]; rfl))
          (first | (go_at_call 38; go_loud (refine (clone_pre B f2.sure _ f.bytes.length f.bytes _ w0 _ (Mod.drew (m := m5)) hkle hflen).mono ?_); rintro e w4 ⟨A', c', rfl, _m6⟩))
        have hfr : fget M.tab w4.heap.size = none := fresh_made _m6 inferInstance
        have m7 := file_shut (w := (w4.alloc (.cells #[.int .i64 (f2.sure : Int), .slice A' f2.sure c'] 79)).mapPut w'.heap.size nm (ptr w4.heap.size)) inferInstance Hf.out rfl f rfl rfl rfl
        rw [fset_same _ _ _ Hf.out] at m7
        have hfl : f2.bytes.length = f2.sure := by rw [Hkb.out, List.length_take]; omega
        have m8 := made_file (g := w4.heap.size) m7 f2 rfl hfl.symm (by rw [Hkb.out])
        have hdir : mput (ptrs M.dir) nm (ptr w4.heap.size) = ptrs (Made.dir ((nm, w4.heap.size, f2) :: M)) := by
          rw [dir_cons, ptrs, mput_onVals, mput_new Hno.out]; rfl
        rw [hdir] at m8
        have Hfr := Lib.hid hfr
        clear hfr m7 m5 _m6 hdir
        go_wp2
        go_roundg (left.eraseIdx i).length
        case measure => rw [Hk.out, List.length_eraseIdx_of_lt hi']; omega
        case rel =>
          refine ⟨left.eraseIdx i, (nm, g) :: done, (nm, w4.heap.size, f2) :: M, some (nm, ptr g), rfl, Hp2.out, ?_, ?_, ?_, ?_⟩
          · show (nm, f2) :: M.map (fun q => (q.1, q.2.2)) = (nm, keptOf D keep g) :: done.map fun q => (q.1, keptOf D keep q.2)
            rw [Hke.out, Hm.out]
          · show (w4.heap.size :: M.map (·.2.1)).Nodup
            refine List.nodup_cons.2 ⟨?_, Hd.out⟩
            have := fget_none_mem _ _ Hfr.out
            rw [Made.tab, List.map_map] at this
            exact this
          · rw [List.length_eraseIdx_of_lt hi']; omega
          · exact Mod.to (m := m8) (by simp only [emp_sep]; ac_rfl)
/-- Which names a failure leaves. -/
def namesLeft (D : DiskSt) (b : Bool) : Dir := if b then D.now else D.sure
theorem fail_ok (p : Nat) (D : DiskSt) (w w0 : World) (S F : Asn) (m : Mod w w0 S) (t : Take S (diskA p) D F) (keep : Nat) (b : Bool) (hk : keep ≤ 9223372036854775807) :
    Calls Tryd.prog 23 #[.pointer (some ⟨p, 0, none⟩), .int .i64 (keep : Int), .bool b] w fun e w' => ∃ p' M, e = .returned (.tuple #[ptr p', .int .i64 0]) ∧
      (M.map fun q => (q.1, q.2.2)).Perm ((namesLeft D b).map fun q => (q.1, keptOf D keep q.2)) ∧ (M.map (·.2.1)).Nodup ∧ DiskOk ⟨D.size, Made.dir M, Made.dir M, Made.tab M⟩ ∧ Mod w' w0 (diskA p' ⟨D.size, M.dir, M.dir, M.tab⟩ * S) := by
  obtain ⟨rn, rs, hok, m1⟩ := disk_open m t
  cases b
  · have m2 : Mod w w0 (smap rs (ptrs D.sure) * (blk p (.cells #[.int .i64 (D.size : Int), .map (some rn), .map (some rs)] 84 (0, 0)) * (smap rn (ptrs D.now) * (filesA D.files * F)))) := Mod.to (m := m1) (by ac_rfl)
    refine (fail_gen p rs rn rn rs false (.inr ⟨rfl, rfl, rfl⟩) D hok D.sure D.now hok.manyS hok.sure hok.keysS hok.namedS keep hk w w0 F m2).mono ?_
    rintro e w' ⟨p', rfl, M, h1, h2, m3⟩
    refine ⟨p', M, rfl, h1, h2, made_ok hok hok.manyS hok.sure hok.keysS hok.namedS h1 h2, ?_⟩
    rw [t.eq, sep_left_comm]
    exact disk_shut_eq m3 D hok rfl rfl rfl rfl (by simp only [emp_sep])
  · have m2 : Mod w w0 (smap rn (ptrs D.now) * (blk p (.cells #[.int .i64 (D.size : Int), .map (some rn), .map (some rs)] 84 (0, 0)) * (smap rs (ptrs D.sure) * (filesA D.files * F)))) := Mod.to (m := m1) (by ac_rfl)
    refine (fail_gen p rn rs rn rs true (.inl ⟨rfl, rfl, rfl⟩) D hok D.now D.sure hok.many hok.now hok.keys hok.named keep hk w w0 F m2).mono ?_
    rintro e w' ⟨p', rfl, M, h1, h2, m3⟩
    refine ⟨p', M, rfl, h1, h2, made_ok hok hok.many hok.now hok.keys hok.named h1 h2, ?_⟩
    rw [t.eq, sep_left_comm]
    exact disk_shut_eq m3 D hok rfl rfl rfl rfl (by simp only [emp_sep])
end Go.Proofs.YtmpgnnjhgjfgaaaDoor
