/- The walks of the reference's New and Fail: contracts over the small separation logic; the conditions are in each theorem. -/
import Derived.Test.YtcakdaadbpimaaaGreatDoorRef4
namespace Go.Proofs.YtcakdaadbpimaaaGreatDoor
open Go.RowKit Go.Sl
attribute [local go_sem] cell_of cellAt_of frozen_of
theorem rnew_arg (n : Int) (w w0 : World) (S : Asn) (m : Mod w w0 S) (hn : n < 1 ∨ 8388608 < n) : Calls Tryz.prog 9 #[.int .i64 n] w fun e w' => e = .returned (.tuple #[.pointer none, .int .i64 1]) ∧ Mod w' w0 S := by
  rcases hn with hn | hn
  · go_enter Tryz.func9, Tryz.ntmps9
    go_wp2_with fail
    go_ret2
    exact ⟨rfl, m⟩
  · have h1 : ¬ n < 1 := by omega
    go_enter Tryz.func9, Tryz.ntmps9
    go_wp2_with fail
    go_ret2
    exact ⟨rfl, m⟩
theorem rnew_ok (n : Nat) (w w0 : World) (S : Asn) (m : Mod w w0 S) (h1 : 1 ≤ n) (h2 : n ≤ 8388608) : Calls Tryz.prog 9 #[.int .i64 (n : Int)] w fun e w' => ∃ p, e = .returned (.tuple #[ptr p, .int .i64 0]) ∧ Mod w' w0 (refA p (newDisk n) * S) := by
  have hi1 : ¬ (n : Int) < 1 := by omega
  have hi2 : ¬ (8388608 : Int) < (n : Int) := by omega
  go_enter Tryz.func9, Tryz.ntmps9
  go_wp2_with fail
  go_ret2
  refine ⟨w.heap.size, rfl, ?_⟩
  have m1 : Mod (w.alloc (.cells #[.int .i64 (n : Int), .slice none 0 0, .slice none 0 0] 105)) w0 (Go.Sl.blk w.heap.size (.cells #[.int .i64 (n : Int), .slice none 0 0, .slice none 0 0] 105 (0, 0)) * S) := inferInstance
  have m2 := row_none_n (e := 122) (size := 2) (row_none_n (e := 122) (size := 2) m1)
  have m3 : Mod (w.alloc (.cells #[.int .i64 (n : Int), .slice none 0 0, .slice none 0 0] 105)) w0 (Go.Sl.blk w.heap.size (.cells #[.int .i64 (n : Int), .slice none 0 0, .slice none 0 0] 105 (0, 0)) * (rowA 122 2 (.slice none 0 0) 0 [] * (rowA 122 2 (.slice none 0 0) 0 [] * (emp * S)))) := Mod.to (m := m2) (by rw [emp_sep]; ac_rfl)
  exact ref_shut (newDisk n) m3 (newDisk_ok n h1 h2)
theorem rfiles_append : ∀ (T U : FileTab), rfilesA (T ++ U) = rfilesA T * rfilesA U
  | [], U => (emp_sep _).symm
  | p :: l, U => by simp only [List.cons_append, rfilesA]; rw [rfiles_append l U, sep_assoc]
theorem ok_sure {D : DiskSt} (h : DiskOk D) {L : Dir} (p : L.Perm D.sure) : DiskOk { D with sure := L } :=
  ⟨h.pos, h.most, h.many, h.now, fun q hq => h.sure q (p.subset hq), h.len, h.upto, h.keys, (p.map _).nodup_iff.2 h.keysS, h.inj, (p.map _).nodup_iff.2 h.injS, h.named, fun q hq => h.namedS q (p.subset hq), by show L.length ≤ 64; rw [p.length_eq]; exact h.manyS⟩
/-- Names and places of what was made, in order. -/
def Made.fwd (R : Made) : Dir := R.map fun q => (q.1, q.2.1)
theorem rfail_arg (p : Nat) (M : DiskSt) (keep : Int) (b : Bool) (hk : keep < 0) (w w0 : World) (F : Asn) (m : Mod w w0 (refA p M * F)) : Calls Tryz.prog 28 #[ptr p, .int .i64 keep, .bool b] w fun e w' => e = .returned (.tuple #[.pointer none, .int .i64 1]) ∧ Mod w' w0 (refA p M * F) := by
  go_enter Tryz.func28, Tryz.ntmps28
  go_wp2_with fail
  go_ret2
  exact ⟨rfl, m⟩
theorem fail_close {w w0 : World} {X : Asn} {M : DiskSt} {g gn : Nat} {f : FileSt} {R : Made} {keep kn : Nat} (s : ByteArray) {A' A3 : Option Addr} {c' c3 : Nat} (hf : fget M.files g = some f) (hkn : (kept keep f).sure = kn) (hlen : kn ≤ f.bytes.length)
    (m : Mod w w0 (Go.Sl.blk gn (.cells #[.slice A3 kn c3, .int .i64 (kn : Int)] 118 (0, 0)) * (rowA 5 1 (.slice A3 kn c3) kn (u8s (f.bytes.take kn)) * (Go.Sl.blk g (.cells #[.slice A' f.bytes.length c', .int .i64 (f.sure : Int)] 118 (0, 0)) * (rowA 5 1 (.slice A' f.bytes.length c') f.bytes.length (u8s f.bytes) * (rfilesA (fdel M.files g) * (rfilesA R.tab * X))))))) :
    Mod w w0 (rfilesA (Made.tab (R ++ [(s, gn, kept keep f)])) * (rfilesA M.files * X)) := by
  subst hkn
  have e1 : (kept keep f).bytes.length = (kept keep f).sure := by rw [kept_bytes, List.length_take]; omega
  have m1 : Mod w w0 ((Go.Sl.blk gn (.cells #[.slice A3 (kept keep f).sure c3, .int .i64 ((kept keep f).sure : Int)] 118 (0, 0)) * rowA 5 1 (.slice A3 (kept keep f).sure c3) (kept keep f).bytes.length (u8s (kept keep f).bytes)) * ((Go.Sl.blk g (.cells #[.slice A' f.bytes.length c', .int .i64 (f.sure : Int)] 118 (0, 0)) * rowA 5 1 (.slice A' f.bytes.length c') f.bytes.length (u8s f.bytes)) * (rfilesA (fdel M.files g) * (rfilesA R.tab * X)))) := by
    rw [e1, kept_bytes]
    exact Mod.to (m := m) (by ac_rfl)
  have m2 : Mod w w0 (rfileA gn (kept keep f) * ((Go.Sl.blk g (.cells #[.slice A' f.bytes.length c', .int .i64 (f.sure : Int)] 118 (0, 0)) * rowA 5 1 (.slice A' f.bytes.length c') f.bytes.length (u8s f.bytes)) * (rfilesA (fdel M.files g) * (rfilesA R.tab * X)))) := Mod.shut (G := fun v : Value => Go.Sl.blk gn (.cells #[v, .int .i64 ((kept keep f).sure : Int)] 118 (0, 0)) * rowA 5 1 v (kept keep f).bytes.length (u8s (kept keep f).bytes)) _ (m := m1)
  have m3 : Mod w w0 (Go.Sl.blk g (.cells #[.slice A' f.bytes.length c', .int .i64 (f.sure : Int)] 118 (0, 0)) * (rowA 5 1 (.slice A' f.bytes.length c') f.bytes.length (u8s f.bytes) * (rfilesA (fdel M.files g) * (rfileA gn (kept keep f) * (rfilesA R.tab * X))))) := Mod.to (m := m2) (by ac_rfl)
  have m4 := rfile_shut f m3 hf
  rw [fset_same _ _ _ hf] at m4
  have e2 : Made.tab (R ++ [(s, gn, kept keep f)]) = R.tab ++ [(gn, kept keep f)] := by unfold Made.tab; rw [List.map_append]; rfl
  rw [e2, rfiles_append]
  have e3 : rfilesA [(gn, kept keep f)] = rfileA gn (kept keep f) := by show rfileA gn (kept keep f) * emp = _; rw [sep_emp]
  rw [e3]
  exact Mod.to (m := m4) (by ac_rfl)
theorem ok_nil {D : DiskSt} (h : DiskOk D) : DiskOk { D with sure := [] } :=
  ⟨h.pos, h.most, h.many, h.now, (fun q hq => by cases hq), h.len, h.upto, h.keys, List.nodup_nil, h.inj, List.nodup_nil, h.named, (fun q hq => by cases hq), Nat.zero_le _⟩
theorem fwd_ok {D : DiskSt} (hok : DiskOk D) {l : Dir} {R : Made} {keep : Nat} (hl : l.length ≤ 64) (hin : ∀ q ∈ l, (fget D.files q.2).isSome = true) (hnod : (l.map (·.1)).Nodup) (hnm : ∀ q ∈ l, nameOk q.1 = true) (hp : R.map (fun q => (q.1, q.2.2)) = l.map fun q => (q.1, keptOf D keep q.2)) (hd : (R.map (·.2.1)).Nodup) : DiskOk ⟨D.size, R.fwd, R.fwd, R.tab⟩ := by
  have h1 := made_ok hok hl hin hnod hnm (List.Perm.of_eq hp) hd
  have e : R.dir = R.fwd.reverse := rfl
  have p1 : R.fwd.Perm R.dir := by rw [e]; exact (List.reverse_perm _).symm
  exact ok_sure (D := ⟨D.size, R.fwd, R.dir, R.tab⟩) (ok_now h1 p1) p1
theorem fail_map {R : Made} {M : DiskSt} {LL : Dir} {i keep gn g : Nat} {s : ByteArray} {f : FileSt} (hil : i < LL.length) (h : R.map (fun q => (q.1, q.2.2)) = (LL.take i).map (fun q => (q.1, keptOf M keep q.2)) ∧ (R.map (·.2.1)).Nodup) (hf : fget M.files g = some f) (hg : LL[i].2 = g) (hs : LL[i].1 = s) (hn : fget R.tab gn = none) :
    (R ++ [(s, gn, kept keep f)]).map (fun q => (q.1, q.2.2)) = (LL.take (i + 1)).map (fun q => (q.1, keptOf M keep q.2)) ∧ ((R ++ [(s, gn, kept keep f)]).map (·.2.1)).Nodup := by
  constructor
  · rw [List.take_succ_eq_append_getElem hil, List.map_append, List.map_append, h.1]
    simp [hg, hs, keptOf, hf]
  · rw [List.map_append, List.nodup_append]
    refine ⟨h.2, by simp, fun a ha b hb e => ?_⟩
    simp only [List.map_cons, List.map_nil, List.mem_singleton] at hb
    subst hb e
    refine fget_none_mem _ _ hn ?_
    unfold Made.tab
    rw [List.map_map]
    exact ha
theorem fwd_snoc (R : Made) (s : ByteArray) (gn : Nat) (f : FileSt) : nmCells (Made.fwd (R ++ [(s, gn, f)])) = nmCells R.fwd ++ [.string s, ptr gn] := by
  have : Made.fwd (R ++ [(s, gn, f)]) = R.fwd ++ [(s, gn)] := by unfold Made.fwd; rw [List.map_append]; rfl
  rw [this, nm_append]; rfl
set_option maxRecDepth 4000 in
set_option maxHeartbeats 4000000 in
theorem rfail_now (p : Nat) (M : DiskSt) (keep : Nat) (hkeep : keep ≤ 9223372036854775807) (w w0 : World) (F : Asn) (m : Mod w w0 (refA p M * F)) :
    Calls Tryz.prog 28 #[ptr p, .int .i64 (keep : Int), .bool true] w fun e w' => ∃ (x : Nat) (R : Made), e = .returned (.tuple #[ptr x, .int .i64 0]) ∧ R.map (fun q => (q.1, q.2.2)) = M.now.map (fun q => (q.1, keptOf M keep q.2)) ∧ (R.map (·.2.1)).Nodup ∧ Mod w' w0 (refA x ⟨M.size, R.fwd, R.fwd, R.tab⟩ * (refA p M * F)) := by
  have hk0 : ¬ (keep : Int) < 0 := by omega
  obtain ⟨A, c, B, d, hok, _, m0⟩ := ref_open m
  have Hok := Lib.hid hok
  have r0 : Reads (rowA 122 2 (.slice A M.now.length c) M.now.length (nmCells M.now)) A (M.now.length * 2) (nmCells M.now) := reads_rown (by decide)
  have R0 := Lib.hid r0
  have hmany := hok.many
  have Hin := Lib.hid hok.now
  clear hok r0 m
  obtain ⟨n, hn⟩ : ∃ n, M.now.length = n := ⟨_, rfl⟩
  have Hn := Lib.hid hn
  rw [hn] at hmany m0 R0
  clear hn
  go_enter Tryz.func28, Tryz.ntmps28
  go_wp2_with fail
  have mA : Mod (w.alloc (.cells #[.int .i64 (M.size : Int), .slice none 0 0, .slice none 0 0] 105)) w0 (Go.Sl.blk w.heap.size (.cells #[.int .i64 (M.size : Int), .slice none 0 0, .slice none 0 0] 105 (0, 0)) * (Go.Sl.blk p (.cells #[.int .i64 (M.size : Int), .slice A n c, .slice B M.sure.length d] 105 (0, 0)) * (rowA 122 2 (.slice A n c) n (nmCells M.now) * (rowA 122 2 (.slice B M.sure.length d) M.sure.length (nmCells M.sure) * (rfilesA M.files * F))))) := inferInstance
  obtain ⟨x, hx⟩ : ∃ x, w.heap.size = x := ⟨_, rfl⟩
  rw [hx] at mA ⊢
  clear hx m0
  have mB := row_none_n (e := 122) (size := 2) mA
  go_loopg [10, 11, 12] n (fun gk iv fv nv wr => ∃ (i : Nat) (R : Made) (A9 : Option Addr) (c9 : Nat), i ≤ n ∧ gk = n - i ∧ iv = .int .i64 (i : Int) ∧ Hid (R.map (fun q => (q.1, q.2.2)) = (M.now.take i).map (fun q => (q.1, keptOf M keep q.2)) ∧ (R.map (·.2.1)).Nodup) ∧
    Mod wr w0 (rowA 122 2 (.slice A9 i c9) i (nmCells R.fwd) * (rfilesA R.tab * (Go.Sl.blk x (.cells #[.int .i64 (M.size : Int), .slice A9 i c9, .slice none 0 0] 105 (0, 0)) * (Go.Sl.blk p (.cells #[.int .i64 (M.size : Int), .slice A n c, .slice B M.sure.length d] 105 (0, 0)) * (rowA 122 2 (.slice A n c) n (nmCells M.now) * (rowA 122 2 (.slice B M.sure.length d) M.sure.length (nmCells M.sure) * (rfilesA M.files * F))))))))
  case atStart => exact ⟨0, [], none, 0, Nat.zero_le _, rfl, rfl, ⟨rfl, List.nodup_nil⟩, Mod.to (m := mB) (by show _ = _ * (emp * _); rw [emp_sep]; rfl)⟩
  case round =>
    obtain ⟨i, R, A9, c9, hi, hgk, rfl, HR, m1⟩ := hrel
    by_cases hlt : i < n
    · have hii : (i : Int) < (n : Int) := by omega
      have hil : i < M.now.length := by rw [Hn.out]; exact hlt
      obtain ⟨f, hf⟩ := Option.isSome_iff_exists.1 (Hin.out _ (List.getElem_mem hil))
      obtain ⟨⟨bb, oo, sp⟩, hA, hsp, _⟩ := reads_cell m1 (reads_lift inferInstance R0.out) (by omega)
      simp only at hsp
      subst hsp hA
      obtain ⟨e0, e1⟩ := nm_at M.now i hil
      have k1 := reads_at_cell R0.out (by omega) _ e1
      have k0 := reads_at_cell R0.out (by omega) _ e0
      rw [← Nat.add_assoc] at k1
      obtain ⟨A', c', m3⟩ := rfile_open (Mod.to (m := m1) (S' := rfilesA M.files * (rowA 122 2 (.slice A9 i c9) i (nmCells R.fwd) * (rfilesA R.tab * (Go.Sl.blk x (.cells #[.int .i64 (M.size : Int), .slice A9 i c9, .slice none 0 0] 105 (0, 0)) * (Go.Sl.blk p (.cells #[.int .i64 (M.size : Int), .slice (some ⟨bb, oo, none⟩) n c, .slice B M.sure.length d] 105 (0, 0)) * (rowA 122 2 (.slice (some ⟨bb, oo, none⟩) n c) n (nmCells M.now) * (rowA 122 2 (.slice B M.sure.length d) M.sure.length (nmCells M.sure) * F))))))) (by ac_rfl)) hf
      have hfl : f.bytes.length ≤ 1048576 := Hok.out.len _ (mem_of_fget _ _ _ hf)
      have hup : f.sure ≤ f.bytes.length := Hok.out.upto _ (mem_of_fget _ _ _ hf)
      have Hf := Lib.hid hf
      clear m1 hf e0 e1
      generalize hg : M.now[i].2 = g at *
      generalize hs : M.now[i].1 = s at *
      have Hg := Lib.hid hg
      have Hs := Lib.hid hs
      clear hg hs
      have hmk := min_kept keep f hup
      have hkl := kept_le keep f hup
      have hcc : f.bytes.length ≤ c' := by
        obtain ⟨_, _, e, h3⟩ := row_slice (Mod.to (m := m3) (sep_left_comm _ _ _))
        injection e with _ _ e3
        rw [e3]; exact h3
      obtain ⟨kn, hkn⟩ : ∃ kn, (kept keep f).sure = kn := ⟨_, rfl⟩
      have Hkn := Lib.hid hkn
      rw [hkn] at hmk hkl
      clear hkn
      have hkc : (kn : Int) ≤ (c' : Int) := by omega
      have rK : Reads (rowA 5 1 (.slice A' f.bytes.length c') f.bytes.length (u8s f.bytes)) A' kn (u8s (f.bytes.take kn)) := by
        have h5 := Reads.pre (inferInstance : Reads (rowA 5 1 (.slice A' f.bytes.length c') f.bytes.length (u8s f.bytes)) A' f.bytes.length (u8s f.bytes)) kn hkl
        have e5 : (u8s f.bytes).take kn = u8s (f.bytes.take kn) := by unfold u8s; rw [List.map_take]
        rwa [e5] at h5
      have RK := Lib.hid rK
      clear rK
      go_wp2_with fail
      go_quiet (fail)
      go_wp2_with fail
      have mX : Mod (wr.drewN nq) w0 _ := inferInstance
      have mW : Mod (wr.drewN nq) w0 ((Go.Sl.blk g (.cells #[.slice A' f.bytes.length c', .int .i64 (f.sure : Int)] 118 (0, 0)) * (Go.Sl.blk x (.cells #[.int .i64 (M.size : Int), .slice A9 i c9, .slice none 0 0] 105 (0, 0)) * rowA 122 2 (.slice (some ⟨bb, oo, none⟩) n c) n (nmCells M.now))) *
        (rowA 122 2 (.slice A9 i c9) i (nmCells R.fwd) * (rowA 5 1 (.slice A' f.bytes.length c') f.bytes.length (u8s f.bytes) * (rfilesA (fdel M.files g) * (rfilesA R.tab * (Go.Sl.blk p (.cells #[.int .i64 (M.size : Int), .slice (some ⟨bb, oo, none⟩) n c, .slice B M.sure.length d] 105 (0, 0)) * (rowA 122 2 (.slice B M.sure.length d) M.sure.length (nmCells M.sure) * F))))))) := Mod.to (m := mX) (by ac_rfl)
      obtain ⟨Wd, hWd⟩ : ∃ Wd, Wd = Go.Sl.blk g (.cells #[.slice A' f.bytes.length c', .int .i64 (f.sure : Int)] 118 (0, 0)) * (Go.Sl.blk x (.cells #[.int .i64 (M.size : Int), .slice A9 i c9, .slice none 0 0] 105 (0, 0)) * rowA 122 2 (.slice (some ⟨bb, oo, none⟩) n c) n (nmCells M.now)) := ⟨_, rfl⟩
      rw [← hWd] at mW
      have hb : Has Wd x (.cells #[.int .i64 (M.size : Int), .slice A9 i c9, .slice none 0 0] 105 (0, 0)) := by rw [hWd]; infer_instance
      have hb2 : Has Wd g (.cells #[.slice A' f.bytes.length c', .int .i64 (f.sure : Int)] 118 (0, 0)) := by rw [hWd]; infer_instance
      have hc1 : CellAt Wd bb (oo + i * 2) (.string s) := by rw [hWd]; infer_instance
      have HWd := Lib.hid hWd
      clear hWd m3 k0 k1 mX
      refine wp_region_N 25 (fun u => Mod u w0 Wd) (by kernel_rfl) (Mod.dropR (m := Mod.drew (m := mW))) (fun hHeld => ?_)
      simp only [List.size_toArray, List.length_cons, List.length_nil, Nat.reduceAdd]
      refine take_at 0 (some 58) (v := ?_) rfl rfl (by kernel_rfl) (by decide) (by kernel_rfl) (by kernel_rfl) (by kernel_rfl) (fun _ _ _ h => h) (Or.inl ⟨by rfl, ?_⟩) hHeld ?_
      rotate_left 1
      · (intro u hu; (have hu2 : Mod u w0 Wd := hu); go_simp; try with_reducible rfl)
      simp only [Act.put, List.setIfInBounds_toArray, List.set_cons_zero, List.set_cons_succ]
      refine take_at 1 (some 59) (v := ?_) rfl rfl (by kernel_rfl) (by decide) (by kernel_rfl) (by kernel_rfl) (by kernel_rfl) (fun _ _ _ h => h) (Or.inl ⟨by rfl, ?_⟩) hHeld ?_
      rotate_left 1
      · (intro u hu; (have hu2 : Mod u w0 Wd := hu); go_simp; try with_reducible rfl)
      simp only [Act.put, List.setIfInBounds_toArray, List.set_cons_zero, List.set_cons_succ]
      refine take_at 2 (some 60) (v := ?_) rfl rfl (by kernel_rfl) (by decide) (by kernel_rfl) (by kernel_rfl) (by kernel_rfl) (fun _ _ _ h => h) (Or.inl ⟨by rfl, ?_⟩) hHeld ?_
      rotate_left 1
      · (intro u hu; (have hu2 : Mod u w0 Wd := hu); go_simp; try with_reducible rfl)
      simp only [Act.put, List.setIfInBounds_toArray, List.set_cons_zero, List.set_cons_succ]
      refine take_at 3 (some 61) (v := ?_) rfl rfl (by kernel_rfl) (by decide) (by kernel_rfl) (by kernel_rfl) (by kernel_rfl) (fun _ _ _ h => h) (Or.inl ⟨by rfl, ?_⟩) hHeld ?_
      rotate_left 1
      · (intro u hu; (have hu2 : Mod u w0 Wd := hu); go_simp; try with_reducible rfl)
      simp only [Act.put, List.setIfInBounds_toArray, List.set_cons_zero, List.set_cons_succ]
      refine take_at 4 (some 62) (v := ?_) rfl rfl (by kernel_rfl) (by decide) (by kernel_rfl) (by kernel_rfl) (by kernel_rfl) (fun _ _ _ h => h) (Or.inl ⟨by rfl, ?_⟩) hHeld ?_
      rotate_left 1
      · (intro u hu; (have hu2 : Mod u w0 Wd := hu); go_simp; try with_reducible rfl)
      simp only [Act.put, List.setIfInBounds_toArray, List.set_cons_zero, List.set_cons_succ]
      refine take_at 5 (some 63) (v := ?_) rfl rfl (by kernel_rfl) (by decide) (by kernel_rfl) (by kernel_rfl) (by kernel_rfl) (fun _ _ _ h => h) (Or.inl ⟨by rfl, ?_⟩) hHeld ?_
      rotate_left 1
      · (intro u hu; (have hu2 : Mod u w0 Wd := hu); go_simp; try with_reducible rfl)
      simp only [Act.put, List.setIfInBounds_toArray, List.set_cons_zero, List.set_cons_succ]
      refine take_at 6 (some 64) (v := ?_) rfl rfl (by kernel_rfl) (by decide) (by kernel_rfl) (by kernel_rfl) (by kernel_rfl) (fun _ _ _ h => h) (Or.inl ⟨by rfl, ?_⟩) hHeld ?_
      rotate_left 1
      · (intro u hu; (have hu2 : Mod u w0 Wd := hu); go_simp; try with_reducible rfl)
      simp only [Act.put, List.setIfInBounds_toArray, List.set_cons_zero, List.set_cons_succ]
      refine take_at 7 (some 65) (v := ?_) rfl rfl (by kernel_rfl) (by decide) (by kernel_rfl) (by kernel_rfl) (by kernel_rfl) (fun _ _ _ h => h) (Or.inl ⟨by rfl, ?_⟩) hHeld ?_
      rotate_left 1
      · (intro u hu; (have hu2 : Mod u w0 Wd := hu); go_simp; try with_reducible rfl)
      simp only [Act.put, List.setIfInBounds_toArray, List.set_cons_zero, List.set_cons_succ]
      refine take_at 8 (some 66) (v := ?_) rfl rfl (by kernel_rfl) (by decide) (by kernel_rfl) (by kernel_rfl) (by kernel_rfl) (fun _ _ _ h => h) (Or.inl ⟨by rfl, ?_⟩) hHeld ?_
      rotate_left 1
      · (intro u hu; (have hu2 : Mod u w0 Wd := hu); go_simp; try with_reducible rfl)
      simp only [Act.put, List.setIfInBounds_toArray, List.set_cons_zero, List.set_cons_succ]
      refine take_at 9 (some 67) (v := ?_) rfl rfl (by kernel_rfl) (by decide) (by kernel_rfl) (by kernel_rfl) (by kernel_rfl) (fun _ _ _ h => h) (Or.inl ⟨by rfl, ?_⟩) hHeld ?_
      rotate_left 1
      · (intro u hu; (have hu2 : Mod u w0 Wd := hu); go_simp; try with_reducible rfl)
      simp only [Act.put, List.setIfInBounds_toArray, List.set_cons_zero, List.set_cons_succ]
      refine take_at 10 (some 68) (v := ?_) rfl rfl (by kernel_rfl) (by decide) (by kernel_rfl) (by kernel_rfl) (by kernel_rfl) (fun _ _ _ h => h) (Or.inl ⟨by rfl, ?_⟩) hHeld ?_
      rotate_left 1
      · (intro u hu; (have hu2 : Mod u w0 Wd := hu); go_simp; try with_reducible rfl)
      simp only [Act.put, List.setIfInBounds_toArray, List.set_cons_zero, List.set_cons_succ]
      refine take_at 11 (some 69) (v := ?_) rfl rfl (by kernel_rfl) (by decide) (by kernel_rfl) (by kernel_rfl) (by kernel_rfl) (fun _ _ _ h => h) (Or.inl ⟨by rfl, ?_⟩) hHeld ?_
      rotate_left 1
      · (intro u hu; (have hu2 : Mod u w0 Wd := hu); go_simp; try with_reducible rfl)
      simp only [Act.put, List.setIfInBounds_toArray, List.set_cons_zero, List.set_cons_succ]
      refine take_at 12 (some 70) (v := ?_) rfl rfl (by kernel_rfl) (by decide) (by kernel_rfl) (by kernel_rfl) (by kernel_rfl) (fun _ _ _ h => h) (Or.inl ⟨by rfl, ?_⟩) hHeld ?_
      rotate_left 1
      · (intro u hu; (have hu2 : Mod u w0 Wd := hu); go_simp; try with_reducible rfl)
      simp only [Act.put, List.setIfInBounds_toArray, List.set_cons_zero, List.set_cons_succ]
      refine take_at 13 (some 71) (v := ?_) rfl rfl (by kernel_rfl) (by decide) (by kernel_rfl) (by kernel_rfl) (by kernel_rfl) (fun _ _ _ h => h) (Or.inl ⟨by rfl, ?_⟩) hHeld ?_
      rotate_left 1
      · (intro u hu; (have hu2 : Mod u w0 Wd := hu); go_simp; try with_reducible rfl)
      simp only [Act.put, List.setIfInBounds_toArray, List.set_cons_zero, List.set_cons_succ]
      refine take_at 14 (some 72) (v := ?_) rfl rfl (by kernel_rfl) (by decide) (by kernel_rfl) (by kernel_rfl) (by kernel_rfl) (fun _ _ _ h => h) (Or.inl ⟨by rfl, ?_⟩) hHeld ?_
      rotate_left 1
      · (intro u hu; (have hu2 : Mod u w0 Wd := hu); go_simp; try with_reducible rfl)
      simp only [Act.put, List.setIfInBounds_toArray, List.set_cons_zero, List.set_cons_succ]
      refine take_at 15 (some 73) (v := ?_) rfl rfl (by kernel_rfl) (by decide) (by kernel_rfl) (by kernel_rfl) (by kernel_rfl) (fun _ _ _ h => h) (Or.inl ⟨by rfl, ?_⟩) hHeld ?_
      rotate_left 1
      · (intro u hu; (have hu2 : Mod u w0 Wd := hu); go_simp; try with_reducible rfl)
      simp only [Act.put, List.setIfInBounds_toArray, List.set_cons_zero, List.set_cons_succ]
      refine take_at 17 (some 75) (v := ?_) rfl rfl (by kernel_rfl) (by decide) (by kernel_rfl) (by kernel_rfl) (by kernel_rfl) (fun _ _ _ h => h) (Or.inl ⟨by rfl, ?_⟩) hHeld ?_
      rotate_left 1
      · (intro u hu; (have hu2 : Mod u w0 Wd := hu); go_simp; try with_reducible rfl)
      simp only [Act.put, List.setIfInBounds_toArray, List.set_cons_zero, List.set_cons_succ]
      refine wpAnyN_ready (rs := [16]) (by kernel_rfl) (by simp) (AllReadyN.cons (some 74) rfl rfl rfl (fun K hK => ?_) AllReadyN.nil)
      refine wp_append_row (t := 46) (s := .const (.slice none 0 0)) (x := .tmp 73) rfl (row_none_n (e := 5) (size := 1) (Mod.drew (m := mW))) (v := .slice none 0 0) (n := 0) (xs := []) rfl (A := A') (k := kn) (c := c') rfl (r := reads_lift inferInstance RK.out) (one_u8s _) (by unfold maxLen; omega) (by omega) ?_
      intro A3 c3 w7 m7
      simp only [Nat.zero_add, List.nil_append, emp_sep] at m7 ⊢
      refine hK.out (.slice A3 kn c3) _ (Mod.dropR (m := Mod.drop (m := m7))) (fun hHeld => ?_)
      clear hK K
      simp only [Act.put, List.setIfInBounds_toArray, List.set_cons_zero, List.set_cons_succ]
      refine wpAnyN_ready (rs := [18]) (by kernel_rfl) (by simp) (AllReadyN.cons (some 76) rfl rfl rfl (fun K hK => ?_) AllReadyN.nil)
      go_simp
      refine hK.out (.agg #[.slice A3 kn c3, .int .i64 (kn : Int)]) _ (Mod.dropR (m := Mod.drop (m := m7))) (fun hHeld => ?_)
      clear hK K
      simp only [Act.put, List.setIfInBounds_toArray, List.set_cons_zero, List.set_cons_succ]
      refine wpAnyN_ready (rs := [19]) (by kernel_rfl) (by simp) (AllReadyN.cons (some 77) rfl rfl rfl (fun K hK => ?_) AllReadyN.nil)
      go_simp
      have m8 : Mod (w7.alloc (.cells #[.slice A3 kn c3, .int .i64 (kn : Int)] 118)) w0 (Go.Sl.blk w7.heap.size (.cells #[.slice A3 kn c3, .int .i64 (kn : Int)] 118 (0, 0)) * _) := Mod.alloc (m := m7) _
      refine hK.out (ptr w7.heap.size) _ (Mod.dropR (m := Mod.drop (m := Mod.drop (m := m8)))) (fun hHeld => ?_)
      clear hK K
      simp only [Act.put, List.setIfInBounds_toArray, List.set_cons_zero, List.set_cons_succ]
      refine wpAnyN_ready (rs := [20]) (by kernel_rfl) (by simp) (AllReadyN.cons (some 78) rfl rfl rfl (fun K hK => ?_) AllReadyN.nil)
      go_simp
      refine hK.out (.agg #[.string s, ptr w7.heap.size]) _ (Mod.dropR (m := Mod.drop (m := Mod.drop (m := m8)))) (fun hHeld => ?_)
      clear hK K
      simp only [Act.put, List.setIfInBounds_toArray, List.set_cons_zero, List.set_cons_succ]
      have hfr7 : fget R.tab w7.heap.size = none := rfresh (Mod.pull (m := m7) (rfilesA R.tab))
      have Hfr := Lib.hid hfr7
      clear hfr7
      obtain ⟨gn, hgn⟩ : ∃ gn, w7.heap.size = gn := ⟨_, rfl⟩
      rw [hgn] at m8 Hfr ⊢
      obtain ⟨w8, hw8⟩ : ∃ w8, w7.alloc (.cells #[.slice A3 kn c3, .int .i64 (kn : Int)] 118) = w8 := ⟨_, rfl⟩
      rw [hw8] at m8 ⊢
      refine wpAnyN_ready (rs := [21]) (by kernel_rfl) (by simp) (AllReadyN.cons (some 79) rfl rfl rfl (fun K hK => ?_) AllReadyN.nil)
      refine wp_build_one (t := 103) (e := 122) (size := 2) (bytes := 24) (cs := #[.string s, ptr gn]) rfl rfl rfl (by decide) ?_
      have m9 : Mod (w8.alloc (.cells #[.string s, ptr gn] 122)) w0 (Go.Sl.blk w8.heap.size (.cells #[.string s, ptr gn] 122 (0, 0)) * _) := Mod.alloc (m := m8) _
      refine hK.out (.slice (some ⟨w8.heap.size, 0, none⟩) 1 1) _ (Mod.dropR (m := Mod.drop (m := Mod.drop (m := Mod.drop (m := m9))))) (fun hHeld => ?_)
      clear hK K
      simp only [Act.put, List.setIfInBounds_toArray, List.set_cons_zero, List.set_cons_succ]
      refine wpAnyN_ready (rs := [22]) (by kernel_rfl) (by simp) (AllReadyN.cons (some 80) rfl rfl rfl (fun K hK => ?_) AllReadyN.nil)
      have mx := Mod.pull (m := m9) (rowA 122 2 (.slice A9 i c9) i (nmCells R.fwd))
      refine wp_append_n (t := 103) (s := .tmp 62) (x := .tmp 79) (k := 1) (c := 1) (A := ⟨w8.heap.size, 0, none⟩) (news := [.string s, ptr gn]) rfl mx rfl rfl (reads_blk rfl rfl) (by decide) (one_nm [(s, gn)]) (by unfold maxLen; omega) (by omega) ?_
      intro A4 c4 w10 m10
      clear mx
      have hfr : fget R.tab gn = none := Hfr.out
      have mWd : Mod w10 w0 Wd := Mod.dropR (m := Mod.pull (m := m10) Wd)
      refine hK.out (.slice A4 (i + 1) c4) _ mWd (fun hH1 => ?_)
      clear hK K
      simp only [Act.put, List.setIfInBounds_toArray, List.set_cons_zero, List.set_cons_succ]
      refine wpAnyN_ready (rs := [23]) (by kernel_rfl) (by simp) (AllReadyN.cons (some 81) rfl rfl rfl (fun K hK => ?_) AllReadyN.nil)
      go_simp
      refine hK.out (ptr x) _ mWd (fun hH2 => ?_)
      clear hK K
      simp only [Act.put, List.setIfInBounds_toArray, List.set_cons_zero, List.set_cons_succ]
      refine wpAnyN_ready (rs := [24]) (by kernel_rfl) (by simp) (AllReadyN.cons (some 82) rfl rfl rfl (fun K hK => ?_) AllReadyN.nil)
      go_simp
      refine hK.out (.pointer (some ⟨x, 1, none⟩)) _ mWd (fun hH3 => ?_)
      clear hK K
      simp only [Act.put, List.setIfInBounds_toArray, List.set_cons_zero, List.set_cons_succ]
      refine wpAnyN_ready (rs := [25]) (by kernel_rfl) (by simp) (AllReadyN.last none rfl rfl rfl (fun K hK => ?_))
      go_simp
      refine hK.out undef _ (wpAnyN_done (by kernel_rfl) ?_)
      clear hK K
      simp only [Act.put]
      rw [HWd.out] at m10
      clear mWd hb hb2 hc1 HWd m9 m8 m7 mW hH1 hH2 hH3
      have mP := Mod.pull (m := m10) (Go.Sl.blk x (.cells #[.int .i64 (M.size : Int), .slice A9 i c9, .slice none 0 0] 105 (0, 0)))
      clear m10
      have m11a : Mod (w10.setCell ⟨x, 1, none⟩ (.slice A4 (i + 1) c4)) w0 _ := inferInstance
      simp only [emp_sep] at m11a
      have m11 : Mod (w10.setCell ⟨x, 1, none⟩ (.slice A4 (i + 1) c4)) w0 (Go.Sl.blk x (.cells #[.int .i64 (M.size : Int), .slice A4 (i + 1) c4, .slice none 0 0] 105 (0, 0)) * _) := m11a
      have m12 : Mod (w10.setCell ⟨x, 1, none⟩ (.slice A4 (i + 1) c4)) w0 (Go.Sl.blk gn (.cells #[.slice A3 kn c3, .int .i64 (kn : Int)] 118 (0, 0)) * (rowA 5 1 (.slice A3 kn c3) kn (u8s (f.bytes.take kn)) * (Go.Sl.blk g (.cells #[.slice A' f.bytes.length c', .int .i64 (f.sure : Int)] 118 (0, 0)) * (rowA 5 1 (.slice A' f.bytes.length c') f.bytes.length (u8s f.bytes) * (rfilesA (fdel M.files g) * (rfilesA R.tab *
        (rowA 122 2 (.slice A4 (i + 1) c4) (i + 1) (nmCells R.fwd ++ [.string s, ptr gn]) * (Go.Sl.blk x (.cells #[.int .i64 (M.size : Int), .slice A4 (i + 1) c4, .slice none 0 0] 105 (0, 0)) * (Go.Sl.blk p (.cells #[.int .i64 (M.size : Int), .slice (some ⟨bb, oo, none⟩) n c, .slice B M.sure.length d] 105 (0, 0)) * (rowA 122 2 (.slice (some ⟨bb, oo, none⟩) n c) n (nmCells M.now) * (rowA 122 2 (.slice B M.sure.length d) M.sure.length (nmCells M.sure) * F))))))))))) :=
        Mod.drop (A := Go.Sl.blk w8.heap.size (.cells #[.string s, ptr gn] 122 (0, 0))) (m := Mod.to (m := m11) (by ac_rfl))
      have m13 := fail_close s Hf.out Hkn.out hkl m12
      rw [← fwd_snoc R s gn (kept keep f)] at m13
      have HR2 := Lib.hid (fail_map hil HR.out Hf.out Hg.out Hs.out hfr)
      clear m11 m11a mP m12 hfr Hfr HR
      go_wp2_with fail
      go_roundg (n - (i + 1))
      case measure => omega
      case rel => exact ⟨i + 1, R ++ [(s, gn, kept keep f)], A4, c4, hlt, rfl, by go_num, HR2.out, Mod.to (m := m13) (by ac_rfl)⟩
    · have hin : i = n := by omega
      have hii : ¬ (i : Int) < (n : Int) := by omega
      subst hin
      have hRl : R.fwd.length = i := by
        have := congrArg List.length HR.out.1
        rw [List.length_map, List.length_map, List.take_of_length_le (by rw [Hn.out]; exact Nat.le_refl _), Hn.out] at this
        unfold Made.fwd
        rw [List.length_map]; exact this
      have hmap : R.map (fun q => (q.1, q.2.2)) = M.now.map (fun q => (q.1, keptOf M keep q.2)) := by
        have := HR.out.1
        rwa [List.take_of_length_le (by rw [Hn.out]; exact Nat.le_refl _)] at this
      have hokR := fwd_ok Hok.out (by rw [Hn.out]; exact hmany) Hin.out Hok.out.keys Hok.out.named hmap HR.out.2
      have HokR := Lib.hid hokR
      have Hmap := Lib.hid hmap
      have HRl := Lib.hid hRl
      have m2 : Mod wr w0 (refO p M (.slice A M.now.length c) (.slice B M.sure.length d) (rowA 122 2 (.slice A9 i c9) i (nmCells R.fwd) * (rfilesA R.tab * (Go.Sl.blk x (.cells #[.int .i64 (M.size : Int), .slice A9 i c9, .slice none 0 0] 105 (0, 0)) * F)))) := by
        unfold refO
        rw [Hn.out]
        exact Mod.to (m := m1) (by ac_rfl)
      have m3 := row_none_n (e := 122) (size := 2) (ref_shut M m2 Hok.out)
      have m4 : Mod wr w0 (refO x ⟨M.size, R.fwd, [], R.tab⟩ (.slice A9 i c9) (.slice none 0 0) (refA p M * F)) := by
        have m5 : Mod wr w0 (Go.Sl.blk x (.cells #[.int .i64 (M.size : Int), .slice A9 i c9, .slice none 0 0] 105 (0, 0)) * (rowA 122 2 (.slice A9 i c9) i (nmCells R.fwd) * (rowA 122 2 (.slice none 0 0) 0 [] * (rfilesA R.tab * (refA p M * F))))) := Mod.to (m := m3) (by ac_rfl)
        rw [← hRl] at m5
        rw [← hRl]
        exact m5
      have m6 := ref_shut ⟨M.size, R.fwd, [], R.tab⟩ m4 (ok_nil hokR)
      have HN := Lib.hid (rnames_spec x ⟨M.size, R.fwd, [], R.tab⟩ wr w0 (refA p M * F) m6)
      have HR2 := Lib.hid HR.out.2
      clear m2 m3 m4 m6 hokR hmap hRl HR m1 mA mB
      go_wp2_with (go_at_call 26; refine HN.out.mono ?_; rintro e w9 ⟨rfl, m9⟩)
      go_ret2
      exact ⟨x, R, rfl, Hmap.out, HR2.out, m9⟩
set_option maxRecDepth 4000 in
set_option maxHeartbeats 4000000 in
theorem rfail_sure (p : Nat) (M : DiskSt) (keep : Nat) (hkeep : keep ≤ 9223372036854775807) (w w0 : World) (F : Asn) (m : Mod w w0 (refA p M * F)) :
    Calls Tryz.prog 28 #[ptr p, .int .i64 (keep : Int), .bool false] w fun e w' => ∃ (x : Nat) (R : Made), e = .returned (.tuple #[ptr x, .int .i64 0]) ∧ R.map (fun q => (q.1, q.2.2)) = M.sure.map (fun q => (q.1, keptOf M keep q.2)) ∧ (R.map (·.2.1)).Nodup ∧ Mod w' w0 (refA x ⟨M.size, R.fwd, R.fwd, R.tab⟩ * (refA p M * F)) := by
  have hk0 : ¬ (keep : Int) < 0 := by omega
  obtain ⟨A, c, B, d, hok, _, m0⟩ := ref_open m
  have Hok := Lib.hid hok
  have r0 : Reads (rowA 122 2 (.slice B M.sure.length d) M.sure.length (nmCells M.sure)) B (M.sure.length * 2) (nmCells M.sure) := reads_rown (by decide)
  have R0 := Lib.hid r0
  have hmany := hok.manyS
  have Hin := Lib.hid hok.sure
  clear hok r0 m
  obtain ⟨n, hn⟩ : ∃ n, M.sure.length = n := ⟨_, rfl⟩
  have Hn := Lib.hid hn
  rw [hn] at hmany m0 R0
  clear hn
  go_enter Tryz.func28, Tryz.ntmps28
  go_wp2_with fail
  have mA : Mod (w.alloc (.cells #[.int .i64 (M.size : Int), .slice none 0 0, .slice none 0 0] 105)) w0 (Go.Sl.blk w.heap.size (.cells #[.int .i64 (M.size : Int), .slice none 0 0, .slice none 0 0] 105 (0, 0)) * (Go.Sl.blk p (.cells #[.int .i64 (M.size : Int), .slice A M.now.length c, .slice B n d] 105 (0, 0)) * (rowA 122 2 (.slice A M.now.length c) M.now.length (nmCells M.now) * (rowA 122 2 (.slice B n d) n (nmCells M.sure) * (rfilesA M.files * F))))) := inferInstance
  obtain ⟨x, hx⟩ : ∃ x, w.heap.size = x := ⟨_, rfl⟩
  rw [hx] at mA ⊢
  clear hx m0
  have mB := row_none_n (e := 122) (size := 2) mA
  go_loopg [10, 11, 12] n (fun gk iv fv nv wr => ∃ (i : Nat) (R : Made) (A9 : Option Addr) (c9 : Nat), i ≤ n ∧ gk = n - i ∧ iv = .int .i64 (i : Int) ∧ Hid (R.map (fun q => (q.1, q.2.2)) = (M.sure.take i).map (fun q => (q.1, keptOf M keep q.2)) ∧ (R.map (·.2.1)).Nodup) ∧
    Mod wr w0 (rowA 122 2 (.slice A9 i c9) i (nmCells R.fwd) * (rfilesA R.tab * (Go.Sl.blk x (.cells #[.int .i64 (M.size : Int), .slice A9 i c9, .slice none 0 0] 105 (0, 0)) * (Go.Sl.blk p (.cells #[.int .i64 (M.size : Int), .slice A M.now.length c, .slice B n d] 105 (0, 0)) * (rowA 122 2 (.slice A M.now.length c) M.now.length (nmCells M.now) * (rowA 122 2 (.slice B n d) n (nmCells M.sure) * (rfilesA M.files * F))))))))
  case atStart => exact ⟨0, [], none, 0, Nat.zero_le _, rfl, rfl, ⟨rfl, List.nodup_nil⟩, Mod.to (m := mB) (by show _ = _ * (emp * _); rw [emp_sep]; rfl)⟩
  case round =>
    obtain ⟨i, R, A9, c9, hi, hgk, rfl, HR, m1⟩ := hrel
    by_cases hlt : i < n
    · have hii : (i : Int) < (n : Int) := by omega
      have hil : i < M.sure.length := by rw [Hn.out]; exact hlt
      obtain ⟨f, hf⟩ := Option.isSome_iff_exists.1 (Hin.out _ (List.getElem_mem hil))
      obtain ⟨⟨bb, oo, sp⟩, hA, hsp, _⟩ := reads_cell m1 (reads_lift inferInstance R0.out) (by omega)
      simp only at hsp
      subst hsp hA
      obtain ⟨e0, e1⟩ := nm_at M.sure i hil
      have k1 := reads_at_cell R0.out (by omega) _ e1
      have k0 := reads_at_cell R0.out (by omega) _ e0
      rw [← Nat.add_assoc] at k1
      obtain ⟨A', c', m3⟩ := rfile_open (Mod.to (m := m1) (S' := rfilesA M.files * (rowA 122 2 (.slice A9 i c9) i (nmCells R.fwd) * (rfilesA R.tab * (Go.Sl.blk x (.cells #[.int .i64 (M.size : Int), .slice A9 i c9, .slice none 0 0] 105 (0, 0)) * (Go.Sl.blk p (.cells #[.int .i64 (M.size : Int), .slice A M.now.length c, .slice (some ⟨bb, oo, none⟩) n d] 105 (0, 0)) * (rowA 122 2 (.slice A M.now.length c) M.now.length (nmCells M.now) * (rowA 122 2 (.slice (some ⟨bb, oo, none⟩) n d) n (nmCells M.sure) * F))))))) (by ac_rfl)) hf
      have hfl : f.bytes.length ≤ 1048576 := Hok.out.len _ (mem_of_fget _ _ _ hf)
      have hup : f.sure ≤ f.bytes.length := Hok.out.upto _ (mem_of_fget _ _ _ hf)
      have Hf := Lib.hid hf
      clear m1 hf e0 e1
      generalize hg : M.sure[i].2 = g at *
      generalize hs : M.sure[i].1 = s at *
      have Hg := Lib.hid hg
      have Hs := Lib.hid hs
      clear hg hs
      have hmk := min_kept keep f hup
      have hkl := kept_le keep f hup
      have hcc : f.bytes.length ≤ c' := by
        obtain ⟨_, _, e, h3⟩ := row_slice (Mod.to (m := m3) (sep_left_comm _ _ _))
        injection e with _ _ e3
        rw [e3]; exact h3
      obtain ⟨kn, hkn⟩ : ∃ kn, (kept keep f).sure = kn := ⟨_, rfl⟩
      have Hkn := Lib.hid hkn
      rw [hkn] at hmk hkl
      clear hkn
      have hkc : (kn : Int) ≤ (c' : Int) := by omega
      have rK : Reads (rowA 5 1 (.slice A' f.bytes.length c') f.bytes.length (u8s f.bytes)) A' kn (u8s (f.bytes.take kn)) := by
        have h5 := Reads.pre (inferInstance : Reads (rowA 5 1 (.slice A' f.bytes.length c') f.bytes.length (u8s f.bytes)) A' f.bytes.length (u8s f.bytes)) kn hkl
        have e5 : (u8s f.bytes).take kn = u8s (f.bytes.take kn) := by unfold u8s; rw [List.map_take]
        rwa [e5] at h5
      have RK := Lib.hid rK
      clear rK
      go_wp2_with fail
      go_quiet (fail)
      go_wp2_with fail
      have mX : Mod (wr.drewN nq) w0 _ := inferInstance
      have mW : Mod (wr.drewN nq) w0 ((Go.Sl.blk g (.cells #[.slice A' f.bytes.length c', .int .i64 (f.sure : Int)] 118 (0, 0)) * (Go.Sl.blk x (.cells #[.int .i64 (M.size : Int), .slice A9 i c9, .slice none 0 0] 105 (0, 0)) * rowA 122 2 (.slice (some ⟨bb, oo, none⟩) n d) n (nmCells M.sure))) *
        (rowA 122 2 (.slice A9 i c9) i (nmCells R.fwd) * (rowA 5 1 (.slice A' f.bytes.length c') f.bytes.length (u8s f.bytes) * (rfilesA (fdel M.files g) * (rfilesA R.tab * (Go.Sl.blk p (.cells #[.int .i64 (M.size : Int), .slice A M.now.length c, .slice (some ⟨bb, oo, none⟩) n d] 105 (0, 0)) * (rowA 122 2 (.slice A M.now.length c) M.now.length (nmCells M.now) * F))))))) := Mod.to (m := mX) (by ac_rfl)
      obtain ⟨Wd, hWd⟩ : ∃ Wd, Wd = Go.Sl.blk g (.cells #[.slice A' f.bytes.length c', .int .i64 (f.sure : Int)] 118 (0, 0)) * (Go.Sl.blk x (.cells #[.int .i64 (M.size : Int), .slice A9 i c9, .slice none 0 0] 105 (0, 0)) * rowA 122 2 (.slice (some ⟨bb, oo, none⟩) n d) n (nmCells M.sure)) := ⟨_, rfl⟩
      rw [← hWd] at mW
      have hb : Has Wd x (.cells #[.int .i64 (M.size : Int), .slice A9 i c9, .slice none 0 0] 105 (0, 0)) := by rw [hWd]; infer_instance
      have hb2 : Has Wd g (.cells #[.slice A' f.bytes.length c', .int .i64 (f.sure : Int)] 118 (0, 0)) := by rw [hWd]; infer_instance
      have hc1 : CellAt Wd bb (oo + i * 2) (.string s) := by rw [hWd]; infer_instance
      have HWd := Lib.hid hWd
      clear hWd m3 k0 k1 mX
      refine wp_region_N 25 (fun u => Mod u w0 Wd) (by kernel_rfl) (Mod.dropR (m := Mod.drew (m := mW))) (fun hHeld => ?_)
      simp only [List.size_toArray, List.length_cons, List.length_nil, Nat.reduceAdd]
      refine take_at 0 (some 58) (v := ?_) rfl rfl (by kernel_rfl) (by decide) (by kernel_rfl) (by kernel_rfl) (by kernel_rfl) (fun _ _ _ h => h) (Or.inl ⟨by rfl, ?_⟩) hHeld ?_
      rotate_left 1
      · (intro u hu; (have hu2 : Mod u w0 Wd := hu); go_simp; try with_reducible rfl)
      simp only [Act.put, List.setIfInBounds_toArray, List.set_cons_zero, List.set_cons_succ]
      refine take_at 1 (some 59) (v := ?_) rfl rfl (by kernel_rfl) (by decide) (by kernel_rfl) (by kernel_rfl) (by kernel_rfl) (fun _ _ _ h => h) (Or.inl ⟨by rfl, ?_⟩) hHeld ?_
      rotate_left 1
      · (intro u hu; (have hu2 : Mod u w0 Wd := hu); go_simp; try with_reducible rfl)
      simp only [Act.put, List.setIfInBounds_toArray, List.set_cons_zero, List.set_cons_succ]
      refine take_at 2 (some 60) (v := ?_) rfl rfl (by kernel_rfl) (by decide) (by kernel_rfl) (by kernel_rfl) (by kernel_rfl) (fun _ _ _ h => h) (Or.inl ⟨by rfl, ?_⟩) hHeld ?_
      rotate_left 1
      · (intro u hu; (have hu2 : Mod u w0 Wd := hu); go_simp; try with_reducible rfl)
      simp only [Act.put, List.setIfInBounds_toArray, List.set_cons_zero, List.set_cons_succ]
      refine take_at 3 (some 61) (v := ?_) rfl rfl (by kernel_rfl) (by decide) (by kernel_rfl) (by kernel_rfl) (by kernel_rfl) (fun _ _ _ h => h) (Or.inl ⟨by rfl, ?_⟩) hHeld ?_
      rotate_left 1
      · (intro u hu; (have hu2 : Mod u w0 Wd := hu); go_simp; try with_reducible rfl)
      simp only [Act.put, List.setIfInBounds_toArray, List.set_cons_zero, List.set_cons_succ]
      refine take_at 4 (some 62) (v := ?_) rfl rfl (by kernel_rfl) (by decide) (by kernel_rfl) (by kernel_rfl) (by kernel_rfl) (fun _ _ _ h => h) (Or.inl ⟨by rfl, ?_⟩) hHeld ?_
      rotate_left 1
      · (intro u hu; (have hu2 : Mod u w0 Wd := hu); go_simp; try with_reducible rfl)
      simp only [Act.put, List.setIfInBounds_toArray, List.set_cons_zero, List.set_cons_succ]
      refine take_at 5 (some 63) (v := ?_) rfl rfl (by kernel_rfl) (by decide) (by kernel_rfl) (by kernel_rfl) (by kernel_rfl) (fun _ _ _ h => h) (Or.inl ⟨by rfl, ?_⟩) hHeld ?_
      rotate_left 1
      · (intro u hu; (have hu2 : Mod u w0 Wd := hu); go_simp; try with_reducible rfl)
      simp only [Act.put, List.setIfInBounds_toArray, List.set_cons_zero, List.set_cons_succ]
      refine take_at 6 (some 64) (v := ?_) rfl rfl (by kernel_rfl) (by decide) (by kernel_rfl) (by kernel_rfl) (by kernel_rfl) (fun _ _ _ h => h) (Or.inl ⟨by rfl, ?_⟩) hHeld ?_
      rotate_left 1
      · (intro u hu; (have hu2 : Mod u w0 Wd := hu); go_simp; try with_reducible rfl)
      simp only [Act.put, List.setIfInBounds_toArray, List.set_cons_zero, List.set_cons_succ]
      refine take_at 7 (some 65) (v := ?_) rfl rfl (by kernel_rfl) (by decide) (by kernel_rfl) (by kernel_rfl) (by kernel_rfl) (fun _ _ _ h => h) (Or.inl ⟨by rfl, ?_⟩) hHeld ?_
      rotate_left 1
      · (intro u hu; (have hu2 : Mod u w0 Wd := hu); go_simp; try with_reducible rfl)
      simp only [Act.put, List.setIfInBounds_toArray, List.set_cons_zero, List.set_cons_succ]
      refine take_at 8 (some 66) (v := ?_) rfl rfl (by kernel_rfl) (by decide) (by kernel_rfl) (by kernel_rfl) (by kernel_rfl) (fun _ _ _ h => h) (Or.inl ⟨by rfl, ?_⟩) hHeld ?_
      rotate_left 1
      · (intro u hu; (have hu2 : Mod u w0 Wd := hu); go_simp; try with_reducible rfl)
      simp only [Act.put, List.setIfInBounds_toArray, List.set_cons_zero, List.set_cons_succ]
      refine take_at 9 (some 67) (v := ?_) rfl rfl (by kernel_rfl) (by decide) (by kernel_rfl) (by kernel_rfl) (by kernel_rfl) (fun _ _ _ h => h) (Or.inl ⟨by rfl, ?_⟩) hHeld ?_
      rotate_left 1
      · (intro u hu; (have hu2 : Mod u w0 Wd := hu); go_simp; try with_reducible rfl)
      simp only [Act.put, List.setIfInBounds_toArray, List.set_cons_zero, List.set_cons_succ]
      refine take_at 10 (some 68) (v := ?_) rfl rfl (by kernel_rfl) (by decide) (by kernel_rfl) (by kernel_rfl) (by kernel_rfl) (fun _ _ _ h => h) (Or.inl ⟨by rfl, ?_⟩) hHeld ?_
      rotate_left 1
      · (intro u hu; (have hu2 : Mod u w0 Wd := hu); go_simp; try with_reducible rfl)
      simp only [Act.put, List.setIfInBounds_toArray, List.set_cons_zero, List.set_cons_succ]
      refine take_at 11 (some 69) (v := ?_) rfl rfl (by kernel_rfl) (by decide) (by kernel_rfl) (by kernel_rfl) (by kernel_rfl) (fun _ _ _ h => h) (Or.inl ⟨by rfl, ?_⟩) hHeld ?_
      rotate_left 1
      · (intro u hu; (have hu2 : Mod u w0 Wd := hu); go_simp; try with_reducible rfl)
      simp only [Act.put, List.setIfInBounds_toArray, List.set_cons_zero, List.set_cons_succ]
      refine take_at 12 (some 70) (v := ?_) rfl rfl (by kernel_rfl) (by decide) (by kernel_rfl) (by kernel_rfl) (by kernel_rfl) (fun _ _ _ h => h) (Or.inl ⟨by rfl, ?_⟩) hHeld ?_
      rotate_left 1
      · (intro u hu; (have hu2 : Mod u w0 Wd := hu); go_simp; try with_reducible rfl)
      simp only [Act.put, List.setIfInBounds_toArray, List.set_cons_zero, List.set_cons_succ]
      refine take_at 13 (some 71) (v := ?_) rfl rfl (by kernel_rfl) (by decide) (by kernel_rfl) (by kernel_rfl) (by kernel_rfl) (fun _ _ _ h => h) (Or.inl ⟨by rfl, ?_⟩) hHeld ?_
      rotate_left 1
      · (intro u hu; (have hu2 : Mod u w0 Wd := hu); go_simp; try with_reducible rfl)
      simp only [Act.put, List.setIfInBounds_toArray, List.set_cons_zero, List.set_cons_succ]
      refine take_at 14 (some 72) (v := ?_) rfl rfl (by kernel_rfl) (by decide) (by kernel_rfl) (by kernel_rfl) (by kernel_rfl) (fun _ _ _ h => h) (Or.inl ⟨by rfl, ?_⟩) hHeld ?_
      rotate_left 1
      · (intro u hu; (have hu2 : Mod u w0 Wd := hu); go_simp; try with_reducible rfl)
      simp only [Act.put, List.setIfInBounds_toArray, List.set_cons_zero, List.set_cons_succ]
      refine take_at 15 (some 73) (v := ?_) rfl rfl (by kernel_rfl) (by decide) (by kernel_rfl) (by kernel_rfl) (by kernel_rfl) (fun _ _ _ h => h) (Or.inl ⟨by rfl, ?_⟩) hHeld ?_
      rotate_left 1
      · (intro u hu; (have hu2 : Mod u w0 Wd := hu); go_simp; try with_reducible rfl)
      simp only [Act.put, List.setIfInBounds_toArray, List.set_cons_zero, List.set_cons_succ]
      refine take_at 17 (some 75) (v := ?_) rfl rfl (by kernel_rfl) (by decide) (by kernel_rfl) (by kernel_rfl) (by kernel_rfl) (fun _ _ _ h => h) (Or.inl ⟨by rfl, ?_⟩) hHeld ?_
      rotate_left 1
      · (intro u hu; (have hu2 : Mod u w0 Wd := hu); go_simp; try with_reducible rfl)
      simp only [Act.put, List.setIfInBounds_toArray, List.set_cons_zero, List.set_cons_succ]
      refine wpAnyN_ready (rs := [16]) (by kernel_rfl) (by simp) (AllReadyN.cons (some 74) rfl rfl rfl (fun K hK => ?_) AllReadyN.nil)
      refine wp_append_row (t := 46) (s := .const (.slice none 0 0)) (x := .tmp 73) rfl (row_none_n (e := 5) (size := 1) (Mod.drew (m := mW))) (v := .slice none 0 0) (n := 0) (xs := []) rfl (A := A') (k := kn) (c := c') rfl (r := reads_lift inferInstance RK.out) (one_u8s _) (by unfold maxLen; omega) (by omega) ?_
      intro A3 c3 w7 m7
      simp only [Nat.zero_add, List.nil_append, emp_sep] at m7 ⊢
      refine hK.out (.slice A3 kn c3) _ (Mod.dropR (m := Mod.drop (m := m7))) (fun hHeld => ?_)
      clear hK K
      simp only [Act.put, List.setIfInBounds_toArray, List.set_cons_zero, List.set_cons_succ]
      refine wpAnyN_ready (rs := [18]) (by kernel_rfl) (by simp) (AllReadyN.cons (some 76) rfl rfl rfl (fun K hK => ?_) AllReadyN.nil)
      go_simp
      refine hK.out (.agg #[.slice A3 kn c3, .int .i64 (kn : Int)]) _ (Mod.dropR (m := Mod.drop (m := m7))) (fun hHeld => ?_)
      clear hK K
      simp only [Act.put, List.setIfInBounds_toArray, List.set_cons_zero, List.set_cons_succ]
      refine wpAnyN_ready (rs := [19]) (by kernel_rfl) (by simp) (AllReadyN.cons (some 77) rfl rfl rfl (fun K hK => ?_) AllReadyN.nil)
      go_simp
      have m8 : Mod (w7.alloc (.cells #[.slice A3 kn c3, .int .i64 (kn : Int)] 118)) w0 (Go.Sl.blk w7.heap.size (.cells #[.slice A3 kn c3, .int .i64 (kn : Int)] 118 (0, 0)) * _) := Mod.alloc (m := m7) _
      refine hK.out (ptr w7.heap.size) _ (Mod.dropR (m := Mod.drop (m := Mod.drop (m := m8)))) (fun hHeld => ?_)
      clear hK K
      simp only [Act.put, List.setIfInBounds_toArray, List.set_cons_zero, List.set_cons_succ]
      refine wpAnyN_ready (rs := [20]) (by kernel_rfl) (by simp) (AllReadyN.cons (some 78) rfl rfl rfl (fun K hK => ?_) AllReadyN.nil)
      go_simp
      refine hK.out (.agg #[.string s, ptr w7.heap.size]) _ (Mod.dropR (m := Mod.drop (m := Mod.drop (m := m8)))) (fun hHeld => ?_)
      clear hK K
      simp only [Act.put, List.setIfInBounds_toArray, List.set_cons_zero, List.set_cons_succ]
      have hfr7 : fget R.tab w7.heap.size = none := rfresh (Mod.pull (m := m7) (rfilesA R.tab))
      have Hfr := Lib.hid hfr7
      clear hfr7
      obtain ⟨gn, hgn⟩ : ∃ gn, w7.heap.size = gn := ⟨_, rfl⟩
      rw [hgn] at m8 Hfr ⊢
      obtain ⟨w8, hw8⟩ : ∃ w8, w7.alloc (.cells #[.slice A3 kn c3, .int .i64 (kn : Int)] 118) = w8 := ⟨_, rfl⟩
      rw [hw8] at m8 ⊢
      refine wpAnyN_ready (rs := [21]) (by kernel_rfl) (by simp) (AllReadyN.cons (some 79) rfl rfl rfl (fun K hK => ?_) AllReadyN.nil)
      refine wp_build_one (t := 103) (e := 122) (size := 2) (bytes := 24) (cs := #[.string s, ptr gn]) rfl rfl rfl (by decide) ?_
      have m9 : Mod (w8.alloc (.cells #[.string s, ptr gn] 122)) w0 (Go.Sl.blk w8.heap.size (.cells #[.string s, ptr gn] 122 (0, 0)) * _) := Mod.alloc (m := m8) _
      refine hK.out (.slice (some ⟨w8.heap.size, 0, none⟩) 1 1) _ (Mod.dropR (m := Mod.drop (m := Mod.drop (m := Mod.drop (m := m9))))) (fun hHeld => ?_)
      clear hK K
      simp only [Act.put, List.setIfInBounds_toArray, List.set_cons_zero, List.set_cons_succ]
      refine wpAnyN_ready (rs := [22]) (by kernel_rfl) (by simp) (AllReadyN.cons (some 80) rfl rfl rfl (fun K hK => ?_) AllReadyN.nil)
      have mx := Mod.pull (m := m9) (rowA 122 2 (.slice A9 i c9) i (nmCells R.fwd))
      refine wp_append_n (t := 103) (s := .tmp 62) (x := .tmp 79) (k := 1) (c := 1) (A := ⟨w8.heap.size, 0, none⟩) (news := [.string s, ptr gn]) rfl mx rfl rfl (reads_blk rfl rfl) (by decide) (one_nm [(s, gn)]) (by unfold maxLen; omega) (by omega) ?_
      intro A4 c4 w10 m10
      clear mx
      have hfr : fget R.tab gn = none := Hfr.out
      have mWd : Mod w10 w0 Wd := Mod.dropR (m := Mod.pull (m := m10) Wd)
      refine hK.out (.slice A4 (i + 1) c4) _ mWd (fun hH1 => ?_)
      clear hK K
      simp only [Act.put, List.setIfInBounds_toArray, List.set_cons_zero, List.set_cons_succ]
      refine wpAnyN_ready (rs := [23]) (by kernel_rfl) (by simp) (AllReadyN.cons (some 81) rfl rfl rfl (fun K hK => ?_) AllReadyN.nil)
      go_simp
      refine hK.out (ptr x) _ mWd (fun hH2 => ?_)
      clear hK K
      simp only [Act.put, List.setIfInBounds_toArray, List.set_cons_zero, List.set_cons_succ]
      refine wpAnyN_ready (rs := [24]) (by kernel_rfl) (by simp) (AllReadyN.cons (some 82) rfl rfl rfl (fun K hK => ?_) AllReadyN.nil)
      go_simp
      refine hK.out (.pointer (some ⟨x, 1, none⟩)) _ mWd (fun hH3 => ?_)
      clear hK K
      simp only [Act.put, List.setIfInBounds_toArray, List.set_cons_zero, List.set_cons_succ]
      refine wpAnyN_ready (rs := [25]) (by kernel_rfl) (by simp) (AllReadyN.last none rfl rfl rfl (fun K hK => ?_))
      go_simp
      refine hK.out undef _ (wpAnyN_done (by kernel_rfl) ?_)
      clear hK K
      simp only [Act.put]
      rw [HWd.out] at m10
      clear mWd hb hb2 hc1 HWd m9 m8 m7 mW hH1 hH2 hH3
      have mP := Mod.pull (m := m10) (Go.Sl.blk x (.cells #[.int .i64 (M.size : Int), .slice A9 i c9, .slice none 0 0] 105 (0, 0)))
      clear m10
      have m11a : Mod (w10.setCell ⟨x, 1, none⟩ (.slice A4 (i + 1) c4)) w0 _ := inferInstance
      simp only [emp_sep] at m11a
      have m11 : Mod (w10.setCell ⟨x, 1, none⟩ (.slice A4 (i + 1) c4)) w0 (Go.Sl.blk x (.cells #[.int .i64 (M.size : Int), .slice A4 (i + 1) c4, .slice none 0 0] 105 (0, 0)) * _) := m11a
      have m12 : Mod (w10.setCell ⟨x, 1, none⟩ (.slice A4 (i + 1) c4)) w0 (Go.Sl.blk gn (.cells #[.slice A3 kn c3, .int .i64 (kn : Int)] 118 (0, 0)) * (rowA 5 1 (.slice A3 kn c3) kn (u8s (f.bytes.take kn)) * (Go.Sl.blk g (.cells #[.slice A' f.bytes.length c', .int .i64 (f.sure : Int)] 118 (0, 0)) * (rowA 5 1 (.slice A' f.bytes.length c') f.bytes.length (u8s f.bytes) * (rfilesA (fdel M.files g) * (rfilesA R.tab *
        (rowA 122 2 (.slice A4 (i + 1) c4) (i + 1) (nmCells R.fwd ++ [.string s, ptr gn]) * (Go.Sl.blk x (.cells #[.int .i64 (M.size : Int), .slice A4 (i + 1) c4, .slice none 0 0] 105 (0, 0)) * (Go.Sl.blk p (.cells #[.int .i64 (M.size : Int), .slice A M.now.length c, .slice (some ⟨bb, oo, none⟩) n d] 105 (0, 0)) * (rowA 122 2 (.slice A M.now.length c) M.now.length (nmCells M.now) * (rowA 122 2 (.slice (some ⟨bb, oo, none⟩) n d) n (nmCells M.sure) * F))))))))))) :=
        Mod.drop (A := Go.Sl.blk w8.heap.size (.cells #[.string s, ptr gn] 122 (0, 0))) (m := Mod.to (m := m11) (by ac_rfl))
      have m13 := fail_close s Hf.out Hkn.out hkl m12
      rw [← fwd_snoc R s gn (kept keep f)] at m13
      have HR2 := Lib.hid (fail_map hil HR.out Hf.out Hg.out Hs.out hfr)
      clear m11 m11a mP m12 hfr Hfr HR
      go_wp2_with fail
      go_roundg (n - (i + 1))
      case measure => omega
      case rel => exact ⟨i + 1, R ++ [(s, gn, kept keep f)], A4, c4, hlt, rfl, by go_num, HR2.out, Mod.to (m := m13) (by ac_rfl)⟩
    · have hin : i = n := by omega
      have hii : ¬ (i : Int) < (n : Int) := by omega
      subst hin
      have hRl : R.fwd.length = i := by
        have := congrArg List.length HR.out.1
        rw [List.length_map, List.length_map, List.take_of_length_le (by rw [Hn.out]; exact Nat.le_refl _), Hn.out] at this
        unfold Made.fwd
        rw [List.length_map]; exact this
      have hmap : R.map (fun q => (q.1, q.2.2)) = M.sure.map (fun q => (q.1, keptOf M keep q.2)) := by
        have := HR.out.1
        rwa [List.take_of_length_le (by rw [Hn.out]; exact Nat.le_refl _)] at this
      have hokR := fwd_ok Hok.out (by rw [Hn.out]; exact hmany) Hin.out Hok.out.keysS Hok.out.namedS hmap HR.out.2
      have HokR := Lib.hid hokR
      have Hmap := Lib.hid hmap
      have HRl := Lib.hid hRl
      have m2 : Mod wr w0 (refO p M (.slice A M.now.length c) (.slice B M.sure.length d) (rowA 122 2 (.slice A9 i c9) i (nmCells R.fwd) * (rfilesA R.tab * (Go.Sl.blk x (.cells #[.int .i64 (M.size : Int), .slice A9 i c9, .slice none 0 0] 105 (0, 0)) * F)))) := by
        unfold refO
        rw [Hn.out]
        exact Mod.to (m := m1) (by ac_rfl)
      have m3 := row_none_n (e := 122) (size := 2) (ref_shut M m2 Hok.out)
      have m4 : Mod wr w0 (refO x ⟨M.size, R.fwd, [], R.tab⟩ (.slice A9 i c9) (.slice none 0 0) (refA p M * F)) := by
        have m5 : Mod wr w0 (Go.Sl.blk x (.cells #[.int .i64 (M.size : Int), .slice A9 i c9, .slice none 0 0] 105 (0, 0)) * (rowA 122 2 (.slice A9 i c9) i (nmCells R.fwd) * (rowA 122 2 (.slice none 0 0) 0 [] * (rfilesA R.tab * (refA p M * F))))) := Mod.to (m := m3) (by ac_rfl)
        rw [← hRl] at m5
        rw [← hRl]
        exact m5
      have m6 := ref_shut ⟨M.size, R.fwd, [], R.tab⟩ m4 (ok_nil hokR)
      have HN := Lib.hid (rnames_spec x ⟨M.size, R.fwd, [], R.tab⟩ wr w0 (refA p M * F) m6)
      have HR2 := Lib.hid HR.out.2
      clear m2 m3 m4 m6 hokR hmap hRl HR m1 mA mB
      go_wp2_with (go_at_call 26; refine HN.out.mono ?_; rintro e w9 ⟨rfl, m9⟩)
      go_ret2
      exact ⟨x, R, rfl, Hmap.out, HR2.out, m9⟩
theorem rfail_ok (p : Nat) (M : DiskSt) (keep : Nat) (b : Bool) (hkeep : keep ≤ 9223372036854775807) (w w0 : World) (F : Asn) (m : Mod w w0 (refA p M * F)) :
    Calls Tryz.prog 28 #[ptr p, .int .i64 (keep : Int), .bool b] w fun e w' => ∃ (x : Nat) (R : Made), e = .returned (.tuple #[ptr x, .int .i64 0]) ∧ R.map (fun q => (q.1, q.2.2)) = (namesLeft M b).map (fun q => (q.1, keptOf M keep q.2)) ∧ (R.map (·.2.1)).Nodup ∧ Mod w' w0 (refA x ⟨M.size, R.fwd, R.fwd, R.tab⟩ * (refA p M * F)) := by
  cases b
  · exact rfail_sure p M keep hkeep w w0 F m
  · exact rfail_now p M keep hkeep w w0 F m
end Go.Proofs.YtcakdaadbpimaaaGreatDoor
