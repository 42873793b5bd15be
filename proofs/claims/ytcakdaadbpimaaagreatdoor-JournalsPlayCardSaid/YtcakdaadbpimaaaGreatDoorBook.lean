/- law01's Book, as far as lists of bytes go: contracts over the small separation logic; the conditions are in each theorem. -/
import Derived.Test.YtcakdaadbpimaaaGreatDoorRowKeep
namespace Go.Proofs.YtcakdaadbpimaaaGreatDoor
open Go.RowKit Go.Sl
attribute [local go_sem] cell_of cellAt_of frozen_of
instance : RowN Tryz.prog 31 159 3 56 := ⟨by kernel_rfl, by kernel_rfl⟩
/-- The cells of the lists that are held: each list, the longer one, its number. -/
def hdFrom : Nat → List (Value × Value) → List Value
  | _, [] => []
  | i, p :: l => p.1 :: p.2 :: .int .i64 ((i + 1 : Nat) : Int) :: hdFrom (i + 1) l
abbrev hdCells (ps : List (Value × Value)) : List Value := hdFrom 0 ps
theorem hdFrom_length : ∀ (ps : List (Value × Value)) (i : Nat), (hdFrom i ps).length = ps.length * 3
  | [], _ => rfl
  | p :: l, i => by simp only [hdFrom, List.length_cons, hdFrom_length l (i + 1)]; omega
theorem hdFrom_snoc (p : Value × Value) : ∀ (ps : List (Value × Value)) (i : Nat), hdFrom i (ps ++ [p]) = hdFrom i ps ++ [p.1, p.2, .int .i64 ((i + ps.length + 1 : Nat) : Int)]
  | [], i => by simp [hdFrom]
  | q :: l, i => by
    simp only [List.cons_append, hdFrom, hdFrom_snoc p l (i + 1), List.length_cons]
    have : i + 1 + l.length + 1 = i + (l.length + 1) + 1 := by omega
    rw [this]
theorem hdFrom_at : ∀ (ps : List (Value × Value)) (i j : Nat) (h : j < ps.length), (hdFrom i ps)[j * 3]? = some ps[j].1 ∧ (hdFrom i ps)[j * 3 + 1]? = some ps[j].2 ∧ (hdFrom i ps)[j * 3 + 2]? = some (.int .i64 ((i + j + 1 : Nat) : Int))
  | p :: l, i, 0, _ => by simp [hdFrom]
  | p :: l, i, j + 1, h => by
    have ih := hdFrom_at l (i + 1) j (by simpa using h)
    have e : i + (j + 1) + 1 = i + 1 + j + 1 := by omega
    have e0 : (j + 1) * 3 = j * 3 + 1 + 1 + 1 := by omega
    have e1 : (j + 1) * 3 + 1 = j * 3 + 1 + 1 + 1 + 1 := by omega
    have e2 : (j + 1) * 3 + 2 = j * 3 + 2 + 1 + 1 + 1 := by omega
    rw [e2, e1, e0]
    simp only [hdFrom, List.getElem_cons_succ, e, List.getElem?_cons_succ]
    exact ih
theorem hdFrom_set : ∀ (ps : List (Value × Value)) (i j : Nat) (v : Value) (h : j < ps.length), hdFrom i (ps.set j (ps[j].1, v)) = (hdFrom i ps).set (j * 3 + 1) v
  | p :: l, i, 0, v, _ => by simp [hdFrom]
  | p :: l, i, j + 1, v, h => by
    have ih := hdFrom_set l (i + 1) j v (by simpa using h)
    have e1 : (j + 1) * 3 + 1 = j * 3 + 1 + 1 + 1 + 1 := by omega
    rw [e1]
    simp only [hdFrom, List.set_cons_succ, List.getElem_cons_succ, ih]
theorem hd_one (l : Value) (h : l.oneCell' = true) (n : Int) : ∀ u ∈ [l, .slice none 0 0, .int .i64 n], u.oneCell' = true := by
  intro u hu
  simp only [List.mem_cons, List.not_mem_nil, or_false] at hu
  rcases hu with rfl | rfl | rfl
  · exact h
  · rfl
  · rfl
/-- The mark of a list with a number. -/
def mark (n : Nat) : Int := 1 + ((n % 250 : Nat) : Int)
theorem markByte_spec (n : Nat) (w w0 : World) (S : Asn) (m : Mod w w0 S) (_hn : n ≤ 20000001) : Calls Tryz.prog 129 #[.int .i64 (n : Int)] w fun e w' => e = .returned (.int .u8 (mark n)) ∧ Mod w' w0 S := by
  have h1 : (n : Int).tmod 250 = ((n % 250 : Nat) : Int) := rfl
  have h2 : (n % 250) < 250 := Nat.mod_lt _ (by decide)
  unfold mark
  generalize n % 250 = r at *
  go_enter Tryz.func129, Tryz.ntmps129
  go_wp2_with fail
  go_ret
  exact ⟨rfl, m⟩
theorem isByte_spec (n : Nat) (w w0 : World) (S : Asn) (m : Mod w w0 S) (_hn : n ≤ 20000001) : Calls Tryz.prog 142 #[.int .u8 (mark n), .int .i64 (n : Int)] w fun e w' => e = .returned (.bool true) ∧ Mod w' w0 S := by
  have h1 : (n : Int).tmod 250 = ((n % 250 : Nat) : Int) := rfl
  have h2 : (n % 250) < 250 := Nat.mod_lt _ (by decide)
  unfold mark
  generalize n % 250 = r at *
  go_enter Tryz.func142, Tryz.ntmps142
  go_wp2_with fail
  go_ret
  exact ⟨rfl, m⟩
set_option maxRecDepth 4000 in
set_option maxHeartbeats 4000000 in
theorem keep_spec (k : Nat) (B : Option Addr) (cB : Nat) (ps : List (Value × Value)) (Al : Option Addr) (nl cl : Nat) (w w0 : World) (F : Asn) (hps : ps.length ≤ 20000000)
    (m : Mod w w0 (Go.Sl.blk k (.cells #[.int .i64 (ps.length : Int), (.slice B ps.length cB), .slice none 0 0, .slice none 0 0, .slice none 0 0, .slice none 0 0, .slice none 0 0, .slice none 0 0, .slice none 0 0, .slice none 0 0, .slice none 0 0, .slice none 0 0, .slice none 0 0, .slice none 0 0] 45 (0, 0)) * (rowA 159 3 (.slice B ps.length cB) ps.length (hdCells ps) * F))) : Calls Tryz.prog 57 #[ptr k, .slice Al nl cl] w fun e w' => e = .returned (.tuple #[]) ∧ ∃ B' cB', Mod w' w0 (Go.Sl.blk k (.cells #[.int .i64 ((ps.length + 1 : Nat) : Int), (.slice B' (ps.length + 1) cB'), .slice none 0 0, .slice none 0 0, .slice none 0 0, .slice none 0 0, .slice none 0 0, .slice none 0 0, .slice none 0 0, .slice none 0 0, .slice none 0 0, .slice none 0 0, .slice none 0 0, .slice none 0 0] 45 (0, 0)) * (rowA 159 3 (.slice B' (ps.length + 1) cB') (ps.length + 1) (hdCells (ps ++ [(.slice Al nl cl, .slice none 0 0)])) * F)) := by
  have hcs : Hid (hdCells ps ++ [.slice Al nl cl, .slice none 0 0, .int .i64 ((ps.length + 1 : Nat) : Int)] = hdCells (ps ++ [(.slice Al nl cl, .slice none 0 0)])) := by show _ = _; unfold hdCells; rw [hdFrom_snoc, Nat.zero_add]
  obtain ⟨n, hn⟩ : ∃ n, ps.length = n := ⟨_, rfl⟩
  rw [hn] at hps m hcs ⊢
  clear hn
  generalize hdCells ps = cs at *
  go_enter Tryz.func57, Tryz.ntmps57
  have hn1 : (n : Int) + 1 ≤ 9223372036854775807 := by omega
  go_wp2_with fail
  have mX : Mod (w.setCell ⟨k, 0, none⟩ (.int .i64 ((n : Int) + 1))) w0 _ := inferInstance
  obtain ⟨wr, hwr⟩ : ∃ wr, w.setCell ⟨k, 0, none⟩ (.int .i64 ((n : Int) + 1)) = wr := ⟨_, rfl⟩
  rw [hwr] at mX ⊢
  clear hwr m
  have mW : Mod wr w0 (Go.Sl.blk k (.cells #[.int .i64 ((n : Int) + 1), (.slice B n cB), .slice none 0 0, .slice none 0 0, .slice none 0 0, .slice none 0 0, .slice none 0 0, .slice none 0 0, .slice none 0 0, .slice none 0 0, .slice none 0 0, .slice none 0 0, .slice none 0 0, .slice none 0 0] 45 (0, 0)) * (rowA 159 3 (.slice B n cB) n cs * F)) := by simp only [emp_sep] at mX; exact mX
  clear mX
  obtain ⟨Wd, hWd⟩ : ∃ Wd, Wd = Go.Sl.blk k (.cells #[.int .i64 ((n : Int) + 1), (.slice B n cB), .slice none 0 0, .slice none 0 0, .slice none 0 0, .slice none 0 0, .slice none 0 0, .slice none 0 0, .slice none 0 0, .slice none 0 0, .slice none 0 0, .slice none 0 0, .slice none 0 0, .slice none 0 0] 45 (0, 0)) := ⟨_, rfl⟩
  rw [← hWd] at mW
  have hb : Has Wd k (.cells #[.int .i64 ((n : Int) + 1), (.slice B n cB), .slice none 0 0, .slice none 0 0, .slice none 0 0, .slice none 0 0, .slice none 0 0, .slice none 0 0, .slice none 0 0, .slice none 0 0, .slice none 0 0, .slice none 0 0, .slice none 0 0, .slice none 0 0] 45 (0, 0)) := by rw [hWd]; infer_instance
  have HWd := Lib.hid hWd
  clear hWd
  refine wp_region_N 15 (fun u => Mod u w0 Wd) (by kernel_rfl) (Mod.dropR (m := Mod.drew (m := mW))) (fun hHeld => ?_)
  simp only [List.size_toArray, List.length_cons, List.length_nil, Nat.reduceAdd]
  have mD := Mod.drew (m := mW)
  clear mW
  have mW := mD
  clear mD
  obtain ⟨wd, hwd⟩ : ∃ wd, wr.drew = wd := ⟨_, rfl⟩
  rw [hwd] at mW hHeld ⊢
  clear hwd
  refine take_at 0 (some 11) (v := ?_) rfl rfl (by kernel_rfl) (by decide) (by kernel_rfl) (by kernel_rfl) (by kernel_rfl) (fun _ _ _ h => h) (Or.inl ⟨by rfl, ?_⟩) hHeld ?_
  rotate_left 1
  · (intro u hu; (have hu2 : Mod u w0 Wd := hu); go_simp; try with_reducible rfl)
  simp only [Act.put, List.setIfInBounds_toArray, List.set_cons_zero, List.set_cons_succ]
  refine take_at 1 (some 12) (v := ?_) rfl rfl (by kernel_rfl) (by decide) (by kernel_rfl) (by kernel_rfl) (by kernel_rfl) (fun _ _ _ h => h) (Or.inl ⟨by rfl, ?_⟩) hHeld ?_
  rotate_left 1
  · (intro u hu; (have hu2 : Mod u w0 Wd := hu); go_simp; try with_reducible rfl)
  simp only [Act.put, List.setIfInBounds_toArray, List.set_cons_zero, List.set_cons_succ]
  refine take_at 2 (some 13) (v := ?_) rfl rfl (by kernel_rfl) (by decide) (by kernel_rfl) (by kernel_rfl) (by kernel_rfl) (fun _ _ _ h => h) (Or.inl ⟨by rfl, ?_⟩) hHeld ?_
  rotate_left 1
  · (intro u hu; (have hu2 : Mod u w0 Wd := hu); go_simp; try with_reducible rfl)
  simp only [Act.put, List.setIfInBounds_toArray, List.set_cons_zero, List.set_cons_succ]
  refine take_at 3 (some 14) (v := ?_) rfl rfl (by kernel_rfl) (by decide) (by kernel_rfl) (by kernel_rfl) (by kernel_rfl) (fun _ _ _ h => h) (Or.inl ⟨by rfl, ?_⟩) hHeld ?_
  rotate_left 1
  · (intro u hu; (have hu2 : Mod u w0 Wd := hu); go_simp; try with_reducible rfl)
  simp only [Act.put, List.setIfInBounds_toArray, List.set_cons_zero, List.set_cons_succ]
  refine take_at 4 (some 15) (v := ?_) rfl rfl (by kernel_rfl) (by decide) (by kernel_rfl) (by kernel_rfl) (by kernel_rfl) (fun _ _ _ h => h) (Or.inl ⟨by rfl, ?_⟩) hHeld ?_
  rotate_left 1
  · (intro u hu; (have hu2 : Mod u w0 Wd := hu); go_simp; try with_reducible rfl)
  simp only [Act.put, List.setIfInBounds_toArray, List.set_cons_zero, List.set_cons_succ]
  refine take_at 5 (some 16) (v := ?_) rfl rfl (by kernel_rfl) (by decide) (by kernel_rfl) (by kernel_rfl) (by kernel_rfl) (fun _ _ _ h => h) (Or.inl ⟨by rfl, ?_⟩) hHeld ?_
  rotate_left 1
  · (intro u hu; (have hu2 : Mod u w0 Wd := hu); go_simp; try with_reducible rfl)
  simp only [Act.put, List.setIfInBounds_toArray, List.set_cons_zero, List.set_cons_succ]
  refine take_at 6 (some 17) (v := ?_) rfl rfl (by kernel_rfl) (by decide) (by kernel_rfl) (by kernel_rfl) (by kernel_rfl) (fun _ _ _ h => h) (Or.inl ⟨by rfl, ?_⟩) hHeld ?_
  rotate_left 1
  · (intro u hu; (have hu2 : Mod u w0 Wd := hu); go_simp; try with_reducible rfl)
  simp only [Act.put, List.setIfInBounds_toArray, List.set_cons_zero, List.set_cons_succ]
  refine take_at 7 (some 18) (v := ?_) rfl rfl (by kernel_rfl) (by decide) (by kernel_rfl) (by kernel_rfl) (by kernel_rfl) (fun _ _ _ h => h) (Or.inl ⟨by rfl, ?_⟩) hHeld ?_
  rotate_left 1
  · (intro u hu; (have hu2 : Mod u w0 Wd := hu); go_simp; try with_reducible rfl)
  simp only [Act.put, List.setIfInBounds_toArray, List.set_cons_zero, List.set_cons_succ]
  refine take_at 8 (some 19) (v := ?_) rfl rfl (by kernel_rfl) (by decide) (by kernel_rfl) (by kernel_rfl) (by kernel_rfl) (fun _ _ _ h => h) (Or.inl ⟨by rfl, ?_⟩) hHeld ?_
  rotate_left 1
  · (intro u hu; (have hu2 : Mod u w0 Wd := hu); go_simp; try with_reducible rfl)
  simp only [Act.put, List.setIfInBounds_toArray, List.set_cons_zero, List.set_cons_succ]
  refine take_at 9 (some 20) (v := ?_) rfl rfl (by kernel_rfl) (by decide) (by kernel_rfl) (by kernel_rfl) (by kernel_rfl) (fun _ _ _ h => h) (Or.inl ⟨by rfl, ?_⟩) hHeld ?_
  rotate_left 1
  · (intro u hu; (have hu2 : Mod u w0 Wd := hu); go_simp; try with_reducible rfl)
  simp only [Act.put, List.setIfInBounds_toArray, List.set_cons_zero, List.set_cons_succ]
  refine wpAnyN_ready (rs := [10]) (by kernel_rfl) (by simp) (AllReadyN.cons (some 21) rfl rfl rfl (fun K hK => ?_) AllReadyN.nil)
  go_simp
  refine hK.out (.agg #[.slice Al nl cl, .slice none 0 0, .int .i64 ((n : Int) + 1)]) _ (Mod.dropR (m := mW)) (fun hHeld => ?_)
  clear hK K
  simp only [Act.put, List.setIfInBounds_toArray, List.set_cons_zero, List.set_cons_succ]
  refine wpAnyN_ready (rs := [11]) (by kernel_rfl) (by simp) (AllReadyN.cons (some 22) rfl rfl rfl (fun K hK => ?_) AllReadyN.nil)
  refine wp_build_one (t := 31) (e := 159) (size := 3) (bytes := 56) (cs := #[.slice Al nl cl, .slice none 0 0, .int .i64 ((n : Int) + 1)]) rfl rfl rfl (by decide) ?_
  have m9 : Mod (wd.alloc (.cells #[.slice Al nl cl, .slice none 0 0, .int .i64 ((n : Int) + 1)] 159)) w0 (Go.Sl.blk wd.heap.size (.cells #[.slice Al nl cl, .slice none 0 0, .int .i64 ((n : Int) + 1)] 159 (0, 0)) * _) := Mod.alloc (m := mW) _
  refine hK.out (.slice (some ⟨wd.heap.size, 0, none⟩) 1 1) _ (Mod.dropR (m := Mod.drop (m := m9))) (fun hHeld => ?_)
  clear hK K
  simp only [Act.put, List.setIfInBounds_toArray, List.set_cons_zero, List.set_cons_succ]
  refine wpAnyN_ready (rs := [12]) (by kernel_rfl) (by simp) (AllReadyN.cons (some 23) rfl rfl rfl (fun K hK => ?_) AllReadyN.nil)
  have mx := Mod.pull (m := m9) (rowA 159 3 (.slice B n cB) n cs)
  refine wp_append_n (t := 31) (s := .tmp 15) (x := .tmp 22) (k := 1) (c := 1) (A := ⟨wd.heap.size, 0, none⟩) (news := [.slice Al nl cl, .slice none 0 0, .int .i64 ((n : Int) + 1)]) rfl mx rfl rfl (reads_blk rfl rfl) (by decide) (hd_one _ rfl _) (by unfold maxLen; omega) (by omega) ?_
  intro A4 c4 w10 m10
  clear mx
  have mWd : Mod w10 w0 Wd := Mod.dropR (m := Mod.pull (m := m10) Wd)
  refine hK.out (.slice A4 (n + 1) c4) _ mWd (fun hH1 => ?_)
  clear hK K
  simp only [Act.put, List.setIfInBounds_toArray, List.set_cons_zero, List.set_cons_succ]
  refine wpAnyN_ready (rs := [13]) (by kernel_rfl) (by simp) (AllReadyN.cons (some 24) rfl rfl rfl (fun K hK => ?_) AllReadyN.nil)
  go_simp
  refine hK.out (ptr k) _ mWd (fun hH2 => ?_)
  clear hK K
  simp only [Act.put, List.setIfInBounds_toArray, List.set_cons_zero, List.set_cons_succ]
  refine wpAnyN_ready (rs := [14]) (by kernel_rfl) (by simp) (AllReadyN.cons (some 25) rfl rfl rfl (fun K hK => ?_) AllReadyN.nil)
  go_simp
  refine hK.out (.pointer (some ⟨k, 1, none⟩)) _ mWd (fun hH3 => ?_)
  clear hK K
  simp only [Act.put, List.setIfInBounds_toArray, List.set_cons_zero, List.set_cons_succ]
  refine wpAnyN_ready (rs := [15]) (by kernel_rfl) (by simp) (AllReadyN.last none rfl rfl rfl (fun K hK => ?_))
  go_simp
  refine hK.out undef _ (wpAnyN_done (by kernel_rfl) ?_)
  clear hK K
  simp only [Act.put]
  rw [HWd.out] at m10
  clear mWd hb HWd m9 mW hH1 hH2 hH3
  have mP := Mod.pull (m := m10) (Go.Sl.blk k (.cells #[.int .i64 ((n : Int) + 1), (.slice B n cB), .slice none 0 0, .slice none 0 0, .slice none 0 0, .slice none 0 0, .slice none 0 0, .slice none 0 0, .slice none 0 0, .slice none 0 0, .slice none 0 0, .slice none 0 0, .slice none 0 0, .slice none 0 0] 45 (0, 0)))
  clear m10
  go_wp2_with fail
  go_end0
  have m11 : Mod (w10.setCell ⟨k, 1, none⟩ (.slice A4 (n + 1) c4)) w0 _ := inferInstance
  simp only [emp_sep] at m11
  have m12 : Mod (w10.setCell ⟨k, 1, none⟩ (.slice A4 (n + 1) c4)) w0 (Go.Sl.blk k (.cells #[.int .i64 ((n : Int) + 1), (.slice A4 (n + 1) c4), .slice none 0 0, .slice none 0 0, .slice none 0 0, .slice none 0 0, .slice none 0 0, .slice none 0 0, .slice none 0 0, .slice none 0 0, .slice none 0 0, .slice none 0 0, .slice none 0 0, .slice none 0 0] 45 (0, 0)) * _) := m11
  rw [← hcs.out]
  refine ⟨rfl, A4, c4, ?_⟩
  exact Mod.drop (A := Go.Sl.blk wd.heap.size (.cells #[.slice Al nl cl, .slice none 0 0, .int .i64 ((n : Int) + 1)] 159 (0, 0))) (m := Mod.to (m := m12) (by ac_rfl))
/-- A list that is held. -/
structure Hd where
  a : Option Addr
  c : Nat
  vs : List Value
def rowsA : List Hd → Asn
  | [] => emp
  | h :: l => rowA 5 1 (.slice h.a h.vs.length h.c) h.vs.length h.vs * rowsA l
theorem rowsA_snoc (h : Hd) : ∀ L : List Hd, rowsA (L ++ [h]) = rowA 5 1 (.slice h.a h.vs.length h.c) h.vs.length h.vs * rowsA L
  | [] => rfl
  | g :: l => by simp only [List.cons_append, rowsA, rowsA_snoc h l]; ac_rfl
/-- Every list full of its mark. -/
def marked : Nat → List Hd → List Hd
  | _, [] => []
  | i, h :: l => ⟨h.a, h.c, List.replicate h.vs.length (.int .u8 (mark (i + 1)))⟩ :: marked (i + 1) l
theorem marked_length : ∀ (L : List Hd) (i : Nat), (marked i L).length = L.length
  | [], _ => rfl
  | h :: l, i => by simp [marked, marked_length l (i + 1)]
theorem marked_at : ∀ (L : List Hd) (i j : Nat) (hj : j < L.length), (marked i L)[j]? = some ⟨L[j].a, L[j].c, List.replicate L[j].vs.length (.int .u8 (mark (i + j + 1)))⟩
  | h :: l, i, 0, _ => rfl
  | h :: l, i, j + 1, hj => by
    have ih := marked_at l (i + 1) j (by simpa using hj)
    have e : i + (j + 1) + 1 = i + 1 + j + 1 := by omega
    simp only [marked, List.getElem?_cons_succ, List.getElem_cons_succ, e]
    exact ih
/-- The cells' first two, before any is longer. -/
def psOf (L : List Hd) : List (Value × Value) := L.map fun h => (.slice h.a h.vs.length h.c, .slice none 0 0)
theorem psOf_length (L : List Hd) : (psOf L).length = L.length := by simp [psOf]
theorem psOf_marked : ∀ (L : List Hd) (i : Nat), psOf (marked i L) = psOf L
  | [], _ => rfl
  | h :: l, i => by
    have ih := psOf_marked l (i + 1)
    unfold psOf at ih ⊢
    simp only [marked, List.map_cons, List.length_replicate, ih]
theorem rows_next {L : List Hd} {i : Nat} (hi : i < L.length) : rowsA (L.drop i) = rowA 5 1 (.slice L[i].a L[i].vs.length L[i].c) L[i].vs.length L[i].vs * rowsA (L.drop (i + 1)) := by
  rw [List.drop_eq_getElem_cons hi]; rfl
theorem rows_done {L : List Hd} {i : Nat} (hi : i < L.length) : rowsA ((marked 0 L).take (i + 1)) = rowA 5 1 (.slice L[i].a L[i].vs.length L[i].c) L[i].vs.length (List.replicate L[i].vs.length (.int .u8 (mark (i + 1)))) * rowsA ((marked 0 L).take i) := by
  have h1 := marked_at L 0 i hi
  obtain ⟨h2, h3⟩ := List.getElem?_eq_some_iff.1 h1
  rw [List.take_succ_eq_append_getElem h2, rowsA_snoc, h3]
  simp only [List.length_replicate, Nat.zero_add]
theorem fill_step {vs : List Value} {j : Nat} (hj : j < vs.length) (x : Value) : (List.replicate j x ++ vs.drop j).set j x = List.replicate (j + 1) x ++ vs.drop (j + 1) := by
  rw [List.set_append_right _ _ (by simp), List.length_replicate, Nat.sub_self, List.drop_eq_getElem_cons hj, List.set_cons_zero, List.replicate_succ', List.append_assoc]
  rfl
set_option maxRecDepth 4000 in
set_option maxHeartbeats 4000000 in
theorem fill_spec (k : Nat) (B : Option Addr) (cB : Nat) (L : List Hd) (w w0 : World) (F : Asn) (hL : L.length ≤ 20000000) (hv : ∀ h ∈ L, h.vs.length ≤ 10000000)
    (m : Mod w w0 (Go.Sl.blk k (.cells #[.int .i64 (L.length : Int), (.slice B L.length cB), .slice none 0 0, .slice none 0 0, .slice none 0 0, .slice none 0 0, .slice none 0 0, .slice none 0 0, .slice none 0 0, .slice none 0 0, .slice none 0 0, .slice none 0 0, .slice none 0 0, .slice none 0 0] 45 (0, 0)) * (rowA 159 3 (.slice B L.length cB) L.length (hdCells (psOf L)) * (rowsA L * F)))) : Calls Tryz.prog 63 #[ptr k] w fun e w' => e = .returned (.tuple #[]) ∧ Mod w' w0 (Go.Sl.blk k (.cells #[.int .i64 (L.length : Int), (.slice B L.length cB), .slice none 0 0, .slice none 0 0, .slice none 0 0, .slice none 0 0, .slice none 0 0, .slice none 0 0, .slice none 0 0, .slice none 0 0, .slice none 0 0, .slice none 0 0, .slice none 0 0, .slice none 0 0] 45 (0, 0)) * (rowA 159 3 (.slice B L.length cB) L.length (hdCells (psOf L)) * (rowsA (marked 0 L) * F))) := by
  obtain ⟨n, hn⟩ : ∃ n, L.length = n := ⟨_, rfl⟩
  have Hn := Lib.hid hn
  rw [hn] at hL m ⊢
  clear hn
  have rH : Reads (rowA 159 3 (.slice B n cB) n (hdCells (psOf L))) B (n * 3) (hdCells (psOf L)) := reads_rown (by decide)
  have RH := Lib.hid rH
  have Hv := Lib.hid hv
  clear rH hv
  go_enter Tryz.func63, Tryz.ntmps63
  go_wp2_with fail
  go_loopg [2] n (fun gk iv wr => ∃ i : Nat, i ≤ n ∧ gk = n - i ∧ iv = .int .i64 (i : Int) ∧ Mod wr w0 (Go.Sl.blk k (.cells #[.int .i64 (n : Int), (.slice B n cB), .slice none 0 0, .slice none 0 0, .slice none 0 0, .slice none 0 0, .slice none 0 0, .slice none 0 0, .slice none 0 0, .slice none 0 0, .slice none 0 0, .slice none 0 0, .slice none 0 0, .slice none 0 0] 45 (0, 0)) * (rowA 159 3 (.slice B n cB) n (hdCells (psOf L)) * (rowsA ((marked 0 L).take i) * (rowsA (L.drop i) * F)))))
  case atStart => exact ⟨0, Nat.zero_le _, rfl, rfl, Mod.to (m := m) (by rw [List.take_zero, List.drop_zero]; show _ = _ * (_ * (emp * _)); rw [emp_sep])⟩
  case round =>
    obtain ⟨i, hi, hgk, rfl, m1⟩ := hrel
    by_cases hlt : i < n
    · have hii : (i : Int) < (n : Int) := by omega
      have hil : i < L.length := by rw [Hn.out]; exact hlt
      obtain ⟨⟨bb, oo, sp⟩, hA, hsp, _⟩ := reads_cell m1 (reads_lift inferInstance RH.out) (by omega)
      simp only at hsp
      subst hsp hA
      obtain ⟨e0, e1, e2⟩ := hdFrom_at (psOf L) 0 i (by rw [psOf_length]; exact hil)
      have k0 := reads_at_cell RH.out (by omega) _ e0
      have k1 := reads_at_cell RH.out (by omega) _ e1
      have k2 := reads_at_cell RH.out (by omega) _ e2
      rw [← Nat.add_assoc] at k1 k2
      have ep : (psOf L)[i]'(by rw [psOf_length]; exact hil) = (.slice L[i].a L[i].vs.length L[i].c, .slice none 0 0) := by simp [psOf]
      rw [ep] at k0 k1
      simp only [Nat.zero_add] at k0 k1 k2
      have hvi := Hv.out _ (List.getElem_mem hil)
      have HD := Lib.hid (rows_done hil)
      rw [rows_next hil] at m1
      generalize L[i].a = la at *
      generalize L[i].c = lc at *
      generalize L[i].vs = vs at *
      clear e0 e1 e2 ep
      obtain ⟨num, hnum⟩ : ∃ num, i + 1 = num := ⟨_, rfl⟩
      rw [hnum] at k2
      have Hnum := Lib.hid hnum
      clear hnum
      obtain ⟨nv, hnv⟩ : ∃ nv, vs.length = nv := ⟨_, rfl⟩
      rw [hnv] at m1 k0 hvi HD
      go_wp2_with fail
      obtain ⟨W, hW⟩ : ∃ W, wr.alloc (.cells #[.slice la nv lc, .slice none 0 0, .int .i64 (num : Int)] 159) = W := ⟨_, rfl⟩
      obtain ⟨gh, hgh⟩ : ∃ gh, wr.heap.size = gh := ⟨_, rfl⟩
      have ma : Mod (wr.alloc (.cells #[.slice la nv lc, .slice none 0 0, .int .i64 (num : Int)] 159)) w0 (Go.Sl.blk wr.heap.size (.cells #[.slice la nv lc, .slice none 0 0, .int .i64 (num : Int)] 159 (0, 0)) * _) := Mod.alloc (m := m1) _
      rw [hW, hgh] at ma
      rw [hW, hgh]
      clear hW hgh
      have mI : Mod W w0 (rowA 5 1 (.slice la nv lc) nv vs * (Go.Sl.blk gh (.cells #[.slice la nv lc, .slice none 0 0, .int .i64 (num : Int)] 159 (0, 0)) * (Go.Sl.blk k (.cells #[.int .i64 (n : Int), (.slice (some ⟨bb, oo, none⟩) n cB), .slice none 0 0, .slice none 0 0, .slice none 0 0, .slice none 0 0, .slice none 0 0, .slice none 0 0, .slice none 0 0, .slice none 0 0, .slice none 0 0, .slice none 0 0, .slice none 0 0, .slice none 0 0] 45 (0, 0)) * (rowA 159 3 (.slice (some ⟨bb, oo, none⟩) n cB) n (hdCells (psOf L)) * (rowsA ((marked 0 L).take i) * (rowsA (L.drop (i + 1)) * F)))))) := Mod.to (m := ma) (by ac_rfl)
      clear ma m1 k0 k1 k2
      obtain ⟨G, hG⟩ : ∃ G, Go.Sl.blk k (.cells #[.int .i64 (n : Int), (.slice (some ⟨bb, oo, none⟩) n cB), .slice none 0 0, .slice none 0 0, .slice none 0 0, .slice none 0 0, .slice none 0 0, .slice none 0 0, .slice none 0 0, .slice none 0 0, .slice none 0 0, .slice none 0 0, .slice none 0 0, .slice none 0 0] 45 (0, 0)) * (rowA 159 3 (.slice (some ⟨bb, oo, none⟩) n cB) n (hdCells (psOf L)) * (rowsA ((marked 0 L).take i) * (rowsA (L.drop (i + 1)) * F))) = G := ⟨_, rfl⟩
      rw [hG] at mI
      have HG := Lib.hid hG
      clear hG
      go_loopg [4] nv (fun gk kv wr => ∃ j : Nat, j ≤ nv ∧ gk = nv - j ∧ kv = .int .i64 (j : Int) ∧ Mod wr w0 (rowA 5 1 (.slice la nv lc) nv (List.replicate j (.int .u8 (mark num)) ++ vs.drop j) * (Go.Sl.blk gh (.cells #[.slice la nv lc, .slice none 0 0, .int .i64 (num : Int)] 159 (0, 0)) * G)))
      case atStart => exact ⟨0, Nat.zero_le _, rfl, rfl, mI⟩
      case round =>
        obtain ⟨j, hj, hgj, rfl, m2⟩ := hrel
        by_cases hjt : j < nv
        · have hjj : (j : Int) < (nv : Int) := by omega
          obtain ⟨g, cur, rfl, h1, h2, h3, h4, h5, m3⟩ := row_open_n m2 (by omega)
          have hnl : num ≤ 20000001 := by have := Hnum.out; omega
          rw [Nat.mul_one] at h3 h4 h5
          have HS := Lib.hid (fill_step (vs := vs) (j := j) (by rw [hnv]; exact hjt) (.int .u8 (mark num)))
          have H5 := Lib.hid h5
          have H4 := Lib.hid h4
          have H3 := Lib.hid h3
          have hjc : j < cur.size := by omega
          have Hjc := Lib.hid hjc
          obtain ⟨old, hold⟩ : ∃ old, cur[j]? = some old := ⟨_, Array.getElem?_eq_getElem hjc⟩
          clear h3 h4 h5 m2 hjc
          go_wp2_with fail
          obtain ⟨SS, hSS, mSS⟩ : ∃ SS, SS = _ ∧ Mod wr w0 SS := ⟨_, rfl, m3⟩
          have hpa : Has SS gh (.cells #[.slice (some ⟨g, 0, none⟩) nv lc, .slice none 0 0, .int .i64 (num : Int)] 159 (0, 0)) := by rw [hSS]; infer_instance
          have HC : Hid (∀ u, Mod u w0 SS → Calls Tryz.prog 129 #[.int .i64 (num : Int)] u fun e w' => e = .returned (.int .u8 (mark num)) ∧ Mod w' w0 SS) := fun u mu => markByte_spec num u w0 SS mu hnl
          have HSS := Lib.hid hSS
          clear hSS
          have := Held.some mSS
          refine wp_region_mod_tail 7 mSS (by kernel_rfl) (by kernel_rfl) ?_
          simp only [List.take_succ_cons, List.take_zero, List.drop_succ_cons, List.drop_zero]
          repeat (go_big_quiet_step ((go_at_call 129; refine quiet_call (HC.out _ ?_); exact inferInstance)))
          refine wpQuiet_nil ?_
          rintro w3 ⟨s, rfl⟩
          have m4 := s.mod
          clear HC mSS hpa m3
          generalize s.world = w3 at *
          rw [HSS.out] at m4
          clear HSS this s
          go_wp2_with fail
          have m5 : Mod (w3.setCell ⟨g, j, none⟩ (.int .u8 (mark num))) w0 _ := inferInstance
          simp only [emp_sep] at m5
          have m6 := row_shut_n (size := 1) (n := nv) (c := lc) (xs := List.replicate (j + 1) (.int .u8 (mark num)) ++ vs.drop (j + 1)) m5 h1 h2 (by rw [Array.size_setIfInBounds]; rw [Nat.mul_one]; exact H4.out) (by rw [← HS.out, List.length_set, Nat.mul_one]; exact H3.out) (by rw [Nat.mul_one, Array.toList_setIfInBounds, List.take_set, H5.out]; exact HS.out)
          go_roundg (nv - (j + 1))
          case measure => omega
          case rel => exact ⟨j + 1, hjt, rfl, by go_num, m6⟩
        · have hin : j = nv := by omega
          have hjj : ¬ (j : Int) < (nv : Int) := by omega
          subst hin
          rw [List.drop_eq_nil_of_le (by rw [hnv]; exact Nat.le_refl _), List.append_nil] at m2
          have m7 := Mod.drop (A := Go.Sl.blk gh (.cells #[.slice la j lc, .slice none 0 0, .int .i64 (num : Int)] 159 (0, 0))) (m := Mod.to (m := m2) (sep_left_comm _ _ _))
          rw [← HG.out] at m7
          have M7 := Lib.hid m7
          clear m7
          go_wp2_with fail
          go_roundg (n - (i + 1))
          case measure => omega
          case rel => exact ⟨i + 1, hlt, rfl, by go_num, by rw [HD.out, Hnum.out]; have m9 := M7.out; rw [Hnum.out] at m9; exact Mod.to (m := m9) (by ac_rfl)⟩
    · have hin : i = n := by omega
      have hii : ¬ (i : Int) < (n : Int) := by omega
      subst hin
      rw [List.take_of_length_le (by rw [marked_length, Hn.out]; exact Nat.le_refl _), List.drop_eq_nil_of_le (by rw [Hn.out]; exact Nat.le_refl _)] at m1
      have m8 : Mod wr w0 (Go.Sl.blk k (.cells #[.int .i64 (i : Int), (.slice B i cB), .slice none 0 0, .slice none 0 0, .slice none 0 0, .slice none 0 0, .slice none 0 0, .slice none 0 0, .slice none 0 0, .slice none 0 0, .slice none 0 0, .slice none 0 0, .slice none 0 0, .slice none 0 0] 45 (0, 0)) * (rowA 159 3 (.slice B i cB) i (hdCells (psOf L)) * (rowsA (marked 0 L) * F))) := Mod.to (m := m1) (by show _ * (_ * (_ * (emp * _))) = _; rw [emp_sep])
      have M8 := Lib.hid m8
      clear m8
      go_wp2_with fail
      go_end0
      exact ⟨rfl, M8.out⟩
end Go.Proofs.YtcakdaadbpimaaaGreatDoor
