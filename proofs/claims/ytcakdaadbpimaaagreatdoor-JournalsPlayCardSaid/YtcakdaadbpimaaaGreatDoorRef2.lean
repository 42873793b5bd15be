/- The walks of the reference's Create, Remove, Rename and Size: contracts over the small separation logic; the conditions are in each theorem. -/
import Derived.Test.YtcakdaadbpimaaaGreatDoorRef1
namespace Go.Proofs.YtcakdaadbpimaaaGreatDoor
open Go.RowKit Go.Sl
attribute [local go_sem] cell_of cellAt_of frozen_of
theorem findI_none {l : Dir} {s : ByteArray} (h : mget l s = none) : findI l s = -1 := by
  have : l.findIdx? (fun q => decide (q.1 = s)) = none := List.findIdx?_eq_none_iff.2 fun q hq => by simp [not_mget h q hq]
  unfold findI; rw [this]
theorem findI_some {l : Dir} {s : ByteArray} {g : Nat} (hn : (l.map (·.1)).Nodup) (h : mget l s = some g) : ∃ i, ∃ hi : i < l.length, findI l s = (i : Int) ∧ l[i].1 = s ∧ l[i].2 = g := by
  have hm := mem_of_mget h
  cases hf : l.findIdx? (fun q => decide (q.1 = s)) with
  | none => have := List.findIdx?_eq_none_iff.1 hf _ hm; simp at this
  | some i =>
    obtain ⟨hi, hp, _⟩ := List.findIdx?_eq_some_iff_getElem.1 hf
    have h1 : l[i].1 = s := by simpa using hp
    have h2 : mget l s = some l[i].2 := mget_mem hn (by rw [← h1]; exact List.getElem_mem hi)
    rw [h] at h2
    injection h2 with h2
    exact ⟨i, hi, by unfold findI; rw [hf], h1, h2.symm⟩
theorem take_drop_mdel {s : ByteArray} : ∀ {l : Dir} {i : Nat} (hi : i < l.length), (l.map (·.1)).Nodup → l[i].1 = s → l.take i ++ l.drop (i + 1) = mdel l s
  | q :: l, 0, _, hn, h => by
    simp only [List.map_cons, List.nodup_cons] at hn
    simp only [List.getElem_cons_zero] at h
    have : mdel (q :: l) s = l := by
      unfold mdel
      rw [List.filter_cons, if_neg (by simp [h])]
      exact List.filter_eq_self.2 fun x hx => by
        have : x.1 ≠ s := fun e => hn.1 (by rw [h, ← e]; exact List.mem_map_of_mem hx)
        simp [this]
    rw [this]; rfl
  | q :: l, i + 1, hi, hn, h => by
    simp only [List.map_cons, List.nodup_cons] at hn
    simp only [List.getElem_cons_succ] at h
    have ih := take_drop_mdel (by simpa using hi) hn.2 h
    have hq : q.1 ≠ s := fun e => hn.1 (by rw [e, ← h]; exact List.mem_map_of_mem (List.getElem_mem _))
    have : mdel (q :: l) s = q :: mdel l s := by unfold mdel; rw [List.filter_cons, if_pos (by simp [hq])]
    rw [this, ← ih]; rfl
theorem ok_now {D : DiskSt} (h : DiskOk D) {L : Dir} (p : L.Perm D.now) : DiskOk { D with now := L } :=
  ⟨h.pos, h.most, by show L.length ≤ 64; rw [p.length_eq]; exact h.many, fun q hq => h.now q (p.subset hq), h.sure, h.len, h.upto, (p.map _).nodup_iff.2 h.keys, h.keysS, (p.map _).nodup_iff.2 h.inj, h.injS, fun q hq => h.named q (p.subset hq), h.namedS, h.manyS⟩
/-- The reference's disk laid open, with what is beside it. -/
abbrev refO (p : Nat) (M : DiskSt) (v1 v2 : Value) (F : Asn) : Asn := Go.Sl.blk p (.cells #[.int .i64 (M.size : Int), v1, v2] 105 (0, 0)) * (rowA 122 2 v1 M.now.length (nmCells M.now) * (rowA 122 2 v2 M.sure.length (nmCells M.sure) * (rfilesA M.files * F)))
theorem rfind_ref (p : Nat) (M : DiskSt) (A : Option Addr) (c : Nat) (v2 : Value) (s : ByteArray) (w w0 : World) (F : Asn) (hok : DiskOk M) (m : Mod w w0 (refO p M (.slice A M.now.length c) v2 F)) :
    Calls Tryz.prog 52 #[ptr p, .string s] w fun e w' => e = .returned (.int .i64 (findI M.now s)) ∧ Mod w' w0 (refO p M (.slice A M.now.length c) v2 F) := by
  have r0 : Reads (rowA 122 2 (.slice A M.now.length c) M.now.length (nmCells M.now)) A (M.now.length * 2) (nmCells M.now) := reads_rown (by decide)
  exact rfind_spec p _ _ A c M.now s w w0 _ m (reads_lift inferInstance r0) hok.many
section
variable (p : Nat) (M : DiskSt) (s : ByteArray) (w w0 : World) (F : Asn) (m : Mod w w0 (refA p M * F)) (hs : s.size ≤ 9223372036854775807)
include m hs
theorem rcreate_arg (hn : nameOk s = false) : Calls Tryz.prog 12 #[ptr p, .string s] w fun e w' => e = .returned (.int .i64 1) ∧ Mod w' w0 (refA p M * F) := by
  go_enter Tryz.func12, Tryz.ntmps12
  go_wp2_with (go_at_call 51; refine (rName_spec s _ w0 _ m hs).mono ?_; rintro e w2 ⟨rfl, m2⟩)
  go_ret
  exact ⟨rfl, m2⟩
theorem rcreate_there (g : Nat) (hn : nameOk s = true) (hg : mget M.now s = some g) : Calls Tryz.prog 12 #[ptr p, .string s] w fun e w' => e = .returned (.int .i64 8) ∧ Mod w' w0 (refA p M * F) := by
  obtain ⟨A, c, B, d, hok, hc, m1⟩ := ref_open m
  obtain ⟨i, hi, hf, _, _⟩ := findI_some hok.keys hg
  have hi0 : (0 : Int) ≤ (i : Int) := by omega
  have Hok := Lib.hid hok
  clear hok hc
  go_enter Tryz.func12, Tryz.ntmps12
  go_wp2_with first
    | (go_at_call 51; refine (rName_spec s _ w0 _ m1 hs).mono ?_; rintro e w2 ⟨rfl, m2⟩)
    | (go_at_call 52; refine (rfind_ref p M A c _ s _ w0 F Hok.out m2).mono ?_; rintro e w3 ⟨rfl, m3⟩)
  go_ret
  exact ⟨rfl, ref_shut M m3 Hok.out⟩
theorem rcreate_full (hn : nameOk s = true) (hg : mget M.now s = none) (hfull : M.now.length = 64) : Calls Tryz.prog 12 #[ptr p, .string s] w fun e w' => e = .returned (.int .i64 6) ∧ Mod w' w0 (refA p M * F) := by
  obtain ⟨A, c, B, d, hok, hc, m1⟩ := ref_open m
  have hf := findI_none hg
  have hfi : (64 : Int) ≤ (M.now.length : Int) := by omega
  have Hok := Lib.hid hok
  clear hok hc hfull
  go_enter Tryz.func12, Tryz.ntmps12
  go_wp2_with first
    | (go_at_call 51; refine (rName_spec s _ w0 _ m1 hs).mono ?_; rintro e w2 ⟨rfl, m2⟩)
    | (go_at_call 52; refine (rfind_ref p M A c _ s _ w0 F Hok.out m2).mono ?_; rintro e w3 ⟨rfl, m3⟩)
  go_ret
  exact ⟨rfl, ref_shut M m3 Hok.out⟩
omit m hs in
theorem rfile_new {w w0 : World} {F : Asn} {T : FileTab} {g : Nat} (m : Mod w w0 (rfilesA T * (Go.Sl.blk g (.cells #[.slice none 0 0, .int .i64 0] 118 (0, 0)) * F))) : Mod w w0 (rfilesA ((g, ⟨[], 0⟩) :: T) * F) := by
  have m1 : Mod w w0 (Go.Sl.blk g (.cells #[.slice none 0 0, .int .i64 0] 118 (0, 0)) * (rfilesA T * F)) := Mod.to (m := m) (sep_left_comm _ _ _)
  have m2 : Mod w w0 ((Go.Sl.blk g (.cells #[.slice none 0 0, .int .i64 0] 118 (0, 0)) * rowA 5 1 (.slice none 0 0) 0 []) * (rfilesA T * F)) := Mod.to (m := row_none_n (e := 5) (size := 1) m1) (by ac_rfl)
  have m3 : Mod w w0 (rfileA g ⟨[], 0⟩ * (rfilesA T * F)) := Mod.shut (G := fun v : Value => Go.Sl.blk g (.cells #[v, .int .i64 0] 118 (0, 0)) * rowA 5 1 v 0 []) (.slice none 0 0) (m := m2)
  rw [← sep_assoc] at m3
  exact m3
set_option maxHeartbeats 1000000 in
theorem rcreate_ok (hn : nameOk s = true) (hg : mget M.now s = none) (hroom : M.now.length < 64) : Calls Tryz.prog 12 #[ptr p, .string s] w fun e w' => ∃ g, e = .returned (.int .i64 0) ∧ fget M.files g = none ∧ Mod w' w0 (refA p ⟨M.size, leadL s g M.now, M.sure, (g, ⟨[], 0⟩) :: M.files⟩ * F) := by
  obtain ⟨A, c, B, d, hok, hc, m1⟩ := ref_open m
  have hf := findI_none hg
  have hfi : ¬ (64 : Int) ≤ (M.now.length : Int) := by omega
  have Hok := Lib.hid hok
  have Hg := Lib.hid hg
  have Hroom := Lib.hid hroom
  clear hok hc hroom hg
  go_enter Tryz.func12, Tryz.ntmps12
  go_wp2_with first
    | (go_at_call 51; refine (rName_spec s _ w0 _ m1 hs).mono ?_; rintro e w2 ⟨rfl, m2⟩)
    | (go_at_call 52; refine (rfind_ref p M A c _ s _ w0 F Hok.out m2).mono ?_; rintro e w3 ⟨rfl, m3⟩)
  have m4 : Mod (w3.alloc (.cells #[.slice none 0 0, .int .i64 0] 118)) w0 (Go.Sl.blk w3.heap.size (.cells #[.slice none 0 0, .int .i64 0] 118 (0, 0)) * refO p M (.slice A M.now.length c) (.slice B M.sure.length d) F) := inferInstance
  have hfr : fget M.files w3.heap.size = none := by
    have m5 : Mod w3 w0 (rfilesA M.files * (Go.Sl.blk p (.cells #[.int .i64 (M.size : Int), .slice A M.now.length c, .slice B M.sure.length d] 105 (0, 0)) * (rowA 122 2 (.slice A M.now.length c) M.now.length (nmCells M.now) * (rowA 122 2 (.slice B M.sure.length d) M.sure.length (nmCells M.sure) * F)))) := Mod.to (m := m3) (by unfold refO; ac_rfl)
    exact rfresh m5
  have m6 : Mod (w3.alloc (.cells #[.slice none 0 0, .int .i64 0] 118)) w0 (refA p M * (Go.Sl.blk w3.heap.size (.cells #[.slice none 0 0, .int .i64 0] 118 (0, 0)) * F)) := ref_shut (v1 := .slice A M.now.length c) (v2 := .slice B M.sure.length d) M (Mod.to (m := m4) (by unfold refO; ac_rfl)) Hok.out
  clear m4 m1 m2 m3 m
  go_wp2_with (go_at_call 53; refine (rlead_spec p M s w3.heap.size Hroom.out _ w0 _ m6).mono ?_; rintro e w7 ⟨rfl, A2, c2, B2, d2, m7⟩)
  go_ret
  refine ⟨_, rfl, hfr, ?_⟩
  have hp := leadL_perm s w3.heap.size M.now
  have hlen : M.now.length + 1 = (leadL s w3.heap.size M.now).length := by rw [hp.length_eq]; rfl
  rw [hlen] at m7
  have m8 : Mod w7 w0 (rfilesA M.files * (Go.Sl.blk w3.heap.size (.cells #[.slice none 0 0, .int .i64 0] 118 (0, 0)) * (Go.Sl.blk p (.cells #[.int .i64 (M.size : Int), .slice A2 (leadL s w3.heap.size M.now).length c2, .slice B2 M.sure.length d2] 105 (0, 0)) * (rowA 122 2 (.slice A2 (leadL s w3.heap.size M.now).length c2) (leadL s w3.heap.size M.now).length (nmCells (leadL s w3.heap.size M.now)) * (rowA 122 2 (.slice B2 M.sure.length d2) M.sure.length (nmCells M.sure) * F))))) := Mod.to (m := m7) (by ac_rfl)
  have m9 := rfile_new m8
  have hok2 := ok_now (created_ok Hok.out hn Hg.out Hroom.out hfr) (L := leadL s w3.heap.size M.now) (by
    show (leadL s w3.heap.size M.now).Perm (mput M.now s w3.heap.size)
    rw [mput_new Hg.out]
    exact hp.trans (List.perm_append_singleton _ _).symm)
  have m10 : Mod w7 w0 (refO p ⟨M.size, leadL s w3.heap.size M.now, M.sure, (w3.heap.size, ⟨[], 0⟩) :: M.files⟩ (.slice A2 (leadL s w3.heap.size M.now).length c2) (.slice B2 M.sure.length d2) F) := Mod.to (m := m9) (by unfold refO; ac_rfl)
  exact ref_shut ⟨M.size, leadL s w3.heap.size M.now, M.sure, (w3.heap.size, ⟨[], 0⟩) :: M.files⟩ m10 hok2
theorem rremove_arg (hn : nameOk s = false) : Calls Tryz.prog 14 #[ptr p, .string s] w fun e w' => e = .returned (.int .i64 1) ∧ Mod w' w0 (refA p M * F) := by
  go_enter Tryz.func14, Tryz.ntmps14
  go_wp2_with (go_at_call 51; refine (rName_spec s _ w0 _ m hs).mono ?_; rintro e w2 ⟨rfl, m2⟩)
  go_ret
  exact ⟨rfl, m2⟩
theorem rremove_none (hn : nameOk s = true) (hg : mget M.now s = none) : Calls Tryz.prog 14 #[ptr p, .string s] w fun e w' => e = .returned (.int .i64 7) ∧ Mod w' w0 (refA p M * F) := by
  obtain ⟨A, c, B, d, hok, _, m1⟩ := ref_open m
  have hf := findI_none hg
  have Hok := Lib.hid hok
  clear hok
  go_enter Tryz.func14, Tryz.ntmps14
  go_wp2_with first
    | (go_at_call 51; refine (rName_spec s _ w0 _ m1 hs).mono ?_; rintro e w2 ⟨rfl, m2⟩)
    | (go_at_call 52; refine (rfind_ref p M A c _ s _ w0 F Hok.out m2).mono ?_; rintro e w3 ⟨rfl, m3⟩)
  go_ret
  exact ⟨rfl, ref_shut M m3 Hok.out⟩
theorem rremove_ok (g : Nat) (hn : nameOk s = true) (hg : mget M.now s = some g) : Calls Tryz.prog 14 #[ptr p, .string s] w fun e w' => e = .returned (.int .i64 0) ∧ Mod w' w0 (refA p { M with now := mdel M.now s } * F) := by
  obtain ⟨A, c, B, d, hok, _, m1⟩ := ref_open m
  obtain ⟨i, hi, hf, h1, _⟩ := findI_some hok.keys hg
  have hi0 : ¬ (i : Int) < 0 := by omega
  have Hok := Lib.hid hok
  have Hd := Lib.hid (take_drop_mdel hi hok.keys h1)
  clear hok h1
  go_enter Tryz.func14, Tryz.ntmps14
  go_wp2_with first
    | (go_at_call 51; refine (rName_spec s _ w0 _ m1 hs).mono ?_; rintro e w2 ⟨rfl, m2⟩)
    | (go_at_call 52; refine (rfind_ref p M A c _ s _ w0 F Hok.out m2).mono ?_; rintro e w3 ⟨rfl, m3⟩)
    | (go_at_call 54; refine (rdrop_spec p M i hi _ w0 F (ref_shut M m3 Hok.out)).mono ?_; rintro e w4 ⟨rfl, m4⟩)
  rw [Hd.out] at m4
  go_ret
  exact ⟨rfl, m4⟩
theorem rsize_arg (hn : nameOk s = false) : Calls Tryz.prog 31 #[ptr p, .string s] w fun e w' => e = .returned (.tuple #[.int .i64 0, .int .i64 1]) ∧ Mod w' w0 (refA p M * F) := by
  go_enter Tryz.func31, Tryz.ntmps31
  go_wp2_with (go_at_call 51; refine (rName_spec s _ w0 _ m hs).mono ?_; rintro e w2 ⟨rfl, m2⟩)
  go_ret2
  exact ⟨rfl, m2⟩
theorem rsize_none (hn : nameOk s = true) (hg : mget M.now s = none) : Calls Tryz.prog 31 #[ptr p, .string s] w fun e w' => e = .returned (.tuple #[.int .i64 0, .int .i64 7]) ∧ Mod w' w0 (refA p M * F) := by
  obtain ⟨A, c, B, d, hok, _, m1⟩ := ref_open m
  have hf := findI_none hg
  have Hok := Lib.hid hok
  clear hok
  go_enter Tryz.func31, Tryz.ntmps31
  go_wp2_with first
    | (go_at_call 51; refine (rName_spec s _ w0 _ m1 hs).mono ?_; rintro e w2 ⟨rfl, m2⟩)
    | (go_at_call 52; refine (rfind_ref p M A c _ s _ w0 F Hok.out m2).mono ?_; rintro e w3 ⟨rfl, m3⟩)
  go_ret2
  exact ⟨rfl, ref_shut M m3 Hok.out⟩
end
/-- The reference's disk with one file laid open. -/
abbrev refF (p : Nat) (M : DiskSt) (A : Option Addr) (c : Nat) (v2 : Value) (g : Nat) (f : FileSt) (v : Value) (F : Asn) : Asn := Go.Sl.blk g (.cells #[v, .int .i64 (f.sure : Int)] 118 (0, 0)) * (rowA 5 1 v f.bytes.length (u8s f.bytes) *
  (Go.Sl.blk p (.cells #[.int .i64 (M.size : Int), .slice A M.now.length c, v2] 105 (0, 0)) * (rowA 122 2 (.slice A M.now.length c) M.now.length (nmCells M.now) * (rowA 122 2 v2 M.sure.length (nmCells M.sure) * (rfilesA (fdel M.files g) * F)))))
theorem ref_file {p : Nat} {M : DiskSt} {s : ByteArray} {w w0 : World} {F : Asn} (m : Mod w w0 (refA p M * F)) {g : Nat} {f : FileSt} (hg : mget M.now s = some g) (hf : fget M.files g = some f) :
    ∃ (i b o c : Nat) (v2 : Value) (A' : Option Addr) (c' : Nat), DiskOk M ∧ i < M.now.length ∧ findI M.now s = (i : Int) ∧ CellAt (rowA 122 2 (.slice (some ⟨b, o, none⟩) M.now.length c) M.now.length (nmCells M.now)) b (o + i * 2 + 1) (ptr g) ∧ Mod w w0 (refF p M (some ⟨b, o, none⟩) c v2 g f (.slice A' f.bytes.length c') F) := by
  obtain ⟨A, c, B, d, hok, _, m1⟩ := ref_open m
  obtain ⟨i, hi, hfi, _, h2⟩ := findI_some hok.keys hg
  have r0 : Reads (rowA 122 2 (.slice A M.now.length c) M.now.length (nmCells M.now)) A (M.now.length * 2) (nmCells M.now) := reads_rown (by decide)
  obtain ⟨⟨b, o, sp⟩, hA, hsp, _⟩ := reads_cell m1 (reads_lift inferInstance r0) (by omega)
  simp only at hsp
  subst hsp hA
  obtain ⟨_, e1⟩ := nm_at M.now i hi
  have hc := reads_at_cell r0 (by omega) _ e1
  rw [← Nat.add_assoc, h2] at hc
  have m2 : Mod w w0 (rfilesA M.files * (Go.Sl.blk p (.cells #[.int .i64 (M.size : Int), .slice (some ⟨b, o, none⟩) M.now.length c, .slice B M.sure.length d] 105 (0, 0)) * (rowA 122 2 (.slice (some ⟨b, o, none⟩) M.now.length c) M.now.length (nmCells M.now) * (rowA 122 2 (.slice B M.sure.length d) M.sure.length (nmCells M.sure) * F)))) := Mod.to (m := m1) (by ac_rfl)
  obtain ⟨A', c', m3⟩ := rfile_open m2 hf
  exact ⟨i, b, o, c, _, A', c', hok, hi, hfi, hc, Mod.to (m := m3) (by unfold refF; ac_rfl)⟩
theorem ref_file_back {p : Nat} {M : DiskSt} {w w0 : World} {F : Asn} {g : Nat} {f : FileSt} (f' : FileSt) {A : Option Addr} {c : Nat} {v2 v : Value} (m : Mod w w0 (refF p M A c v2 g f' v F)) (hf : fget M.files g = some f) (hok : DiskOk { M with files := fset M.files g f' }) : Mod w w0 (refA p { M with files := fset M.files g f' } * F) := by
  have m2 : Mod w w0 (Go.Sl.blk g (.cells #[v, .int .i64 (f'.sure : Int)] 118 (0, 0)) * (rowA 5 1 v f'.bytes.length (u8s f'.bytes) * (rfilesA (fdel M.files g) * (Go.Sl.blk p (.cells #[.int .i64 (M.size : Int), .slice A M.now.length c, v2] 105 (0, 0)) * (rowA 122 2 (.slice A M.now.length c) M.now.length (nmCells M.now) * (rowA 122 2 v2 M.sure.length (nmCells M.sure) * F)))))) := Mod.to (m := m) (by unfold refF; ac_rfl)
  have m3 := rfile_shut f' m2 hf
  have m4 : Mod w w0 (refO p { M with files := fset M.files g f' } (.slice A M.now.length c) v2 F) := Mod.to (m := m3) (by unfold refO; ac_rfl)
  exact ref_shut _ m4 hok
theorem ref_file_same {p : Nat} {M : DiskSt} {w w0 : World} {F : Asn} {g : Nat} {f : FileSt} {A : Option Addr} {c : Nat} {v2 v : Value} (m : Mod w w0 (refF p M A c v2 g f v F)) (hf : fget M.files g = some f) (hok : DiskOk M) : Mod w w0 (refA p M * F) := by
  have e : ({ M with files := fset M.files g f } : DiskSt) = M := by rw [fset_same _ _ _ hf]
  have := ref_file_back (F := F) f m hf (by rw [e]; exact hok)
  rwa [e] at this
theorem rfind_file {p : Nat} {M : DiskSt} {A : Option Addr} {c : Nat} {v2 v : Value} {g : Nat} {f : FileSt} (s : ByteArray) {w w0 : World} {F : Asn} (hok : DiskOk M) (m : Mod w w0 (refF p M A c v2 g f v F)) :
    Calls Tryz.prog 52 #[ptr p, .string s] w fun e w' => e = .returned (.int .i64 (findI M.now s)) ∧ Mod w' w0 (refF p M A c v2 g f v F) := by
  have r0 : Reads (rowA 122 2 (.slice A M.now.length c) M.now.length (nmCells M.now)) A (M.now.length * 2) (nmCells M.now) := reads_rown (by decide)
  exact rfind_spec p _ _ A c M.now s w w0 _ m (reads_lift inferInstance r0) hok.many
section
variable (p : Nat) (M : DiskSt) (s : ByteArray) (w w0 : World) (F : Asn) (m : Mod w w0 (refA p M * F)) (hs : s.size ≤ 9223372036854775807)
include m hs
set_option maxRecDepth 4000 in
set_option maxHeartbeats 1000000 in
theorem rsize_some (g : Nat) (f : FileSt) (hn : nameOk s = true) (hg : mget M.now s = some g) (hfg : fget M.files g = some f) : Calls Tryz.prog 31 #[ptr p, .string s] w fun e w' => e = .returned (.tuple #[.int .i64 (f.bytes.length : Int), .int .i64 0]) ∧ Mod w' w0 (refA p M * F) := by
  obtain ⟨i, b, o, c, v2, A', c', hok, hi, hf, k1, m1⟩ := ref_file m hg hfg
  have hi0 : ¬ (i : Int) < 0 := by omega
  have hil : (i : Int) < (M.now.length : Int) := by omega
  have Hok := Lib.hid hok
  have Hfg := Lib.hid hfg
  clear hok hfg hg m
  go_enter Tryz.func31, Tryz.ntmps31
  go_wp2_with first
    | (go_at_call 51; refine (rName_spec s _ w0 _ m1 hs).mono ?_; rintro e w2 ⟨rfl, m2⟩)
    | (go_at_call 52; refine (rfind_file s Hok.out m2).mono ?_; rintro e w3 ⟨rfl, m3⟩)
  go_ret2
  exact ⟨rfl, ref_file_same m3 Hfg.out Hok.out⟩
end
end Go.Proofs.YtcakdaadbpimaaaGreatDoor
