/- The walk of bucketlinelaw05's FilesPlay. -/
import Derived.Test.YtcakdaadbpimaaaGreatDoorPlayOps
import Derived.Test.YtcakdaadbpimaaaGreatDoorArgActsI
import Derived.Deep.DeepCutAuto
import Derived.Deep.CutBlock
namespace Go.Proofs.YtcakdaadbpimaaaGreatDoor
open Go.RowKit Go.Sl
attribute [local go_sem] cell_of cellAt_of frozen_of
/-- A row without its last element. -/
theorem row_less {w w0 : World} {e n c : Nat} {A : Option Addr} {xs : List Value} {v : Value} {F : Asn} (hl : xs.length = n) (m : Mod w w0 (rowA e 1 (.slice A (n + 1) c) (n + 1) (xs ++ [v]) * F)) : Mod w w0 (rowA e 1 (.slice A n c) n xs * F) := by
  obtain ⟨g, cur, rfl, h1, h2, h3, h4, h5, m2⟩ := row_open_n m (by omega)
  refine row_shut_n m2 (by omega) h2 h4 (by omega) ?_
  rw [Nat.mul_one] at h5 ⊢
  have : (cur.toList.take (n + 1)).take n = xs := by rw [h5, ← hl]; exact List.take_left
  rwa [List.take_take, Nat.min_eq_left (by omega)] at this
/-- An act that came in, in every world. -/
theorem act_at_cells {S : Asn} {b o n : Nat} {l : List ActV} (r : ReadsActs S (some ⟨b, o, none⟩) n l) {k : Nat} (hk : k < l.length) : CellAt S b (o + k * 7) (.int .u8 (l[k].kind : Int)) ∧ CellAt S b (o + k * 7 + 1) (.string l[k].name) ∧ CellAt S b (o + k * 7 + 2) (.string l[k].to) ∧ CellAt S b (o + k * 7 + 3) (.slice l[k].bA l[k].b.length l[k].bc) ∧ CellAt S b (o + k * 7 + 4) (.int .i64 l[k].off) ∧ CellAt S b (o + k * 7 + 5) (.int .i64 l[k].n) ∧ CellAt S b (o + k * 7 + 6) (.bool l[k].names) := by
  have hp : 0 < n * 7 := by have := r.len; omega
  have f : ∀ j v, l[k].cells[j]? = some v → CellAt S b (o + k * 7 + j) v := fun j v hv => by
    rw [Nat.add_assoc]
    exact reads_at_cell r.cells hp _ (act_cell l k j v hk hv)
  exact ⟨f 0 _ rfl, f 1 _ rfl, f 2 _ rfl, f 3 _ rfl, f 4 _ rfl, f 5 _ rfl, f 6 _ rfl⟩
/-- One list more in the book: a row. -/
theorem bytes_row (k : Nat) (B : Option Addr) (cB : Nat) (L : List Hd) (A : Option Addr) (n c : Nat) (xs : List Value) (hl : xs.length = n) (w w0 : World) (F : Asn) (hL : L.length ≤ 20000000) (m : Mod w w0 (bookA k B cB L * (rowA 5 1 (.slice A n c) n xs * F))) :
    Calls Tryz.prog 22 #[ptr k, .slice A n c] w fun e w' => e = .returned (.tuple #[]) ∧ ∃ B' cB', Mod w' w0 (bookA k B' cB' (L ++ [⟨A, c, xs⟩]) * F) := by
  subst hl
  exact bytes_spec k B cB L ⟨A, c, xs⟩ w w0 F hL m
theorem vs_snoc {L : List Hd} {h : Hd} (HV : ∀ h ∈ L, h.vs.length ≤ 10000000) (h1 : h.vs.length ≤ 10000000) : ∀ g ∈ L ++ [h], g.vs.length ≤ 10000000 := by
  intro g hg
  rcases List.mem_append.1 hg with hg | hg
  · exact HV g hg
  · rw [List.mem_singleton.1 hg]; exact h1
/-- What is known of an act that came in. -/
theorem act_facts {S : Asn} {b o n : Nat} {l : List ActV} (r : ReadsActs S (some ⟨b, o, none⟩) n l) (hi : ∀ x ∈ l, x.off ≤ 9223372036854775807 ∧ x.n ≤ 9223372036854775807) (hwt : weight l ≤ 40000) {k : Nat} (hk : k < l.length) :
    ∃ (kd : Nat) (nm tox : ByteArray) (bA : Option Addr) (bc : Nat) (bs : List UInt8) (off nn : Int) (nms : Bool) (nb : Nat), CellAt S b (o + k * 7) (.int .u8 (kd : Int)) ∧ CellAt S b (o + k * 7 + 1) (.string nm) ∧ CellAt S b (o + k * 7 + 2) (.string tox) ∧ CellAt S b (o + k * 7 + 3) (.slice bA nb bc) ∧ CellAt S b (o + k * 7 + 4) (.int .i64 off) ∧ CellAt S b (o + k * 7 + 5) (.int .i64 nn) ∧ CellAt S b (o + k * 7 + 6) (.bool nms) ∧
      nm.size ≤ 140737488355328 ∧ tox.size ≤ 140737488355328 ∧ kd < 256 ∧ Hid (Reads S bA nb (u8s bs)) ∧ (off ≤ 9223372036854775807 ∧ nn ≤ 9223372036854775807) ∧ nb ≤ 40000 ∧ Hid (bs.length = nb) := by
  obtain ⟨c0, c1, c2, c3, c4, c5, c6⟩ := act_at_cells r hk
  have hsm := r.small _ (List.getElem_mem hk)
  have hw : l[k].b.length ≤ 40000 := by
    have h1 := weight_take_succ l k hk
    have h2 := weight_take_le l (k + 1)
    have h4 : l[k].weight = 1 + l[k].b.length + l[k].name.size + l[k].to.size := rfl
    omega
  exact ⟨_, _, _, _, _, l[k].b, _, _, _, _, c0, c1, c2, c3, c4, c5, c6, hsm.2.1, hsm.2.2, r.kinds _ (List.getElem_mem hk), r.bytes _ (List.getElem_mem hk), hi _ (List.getElem_mem hk), hw, rfl⟩
theorem Both.swap {p q : Nat} {D M : DiskSt} {F F' : Asn} {w0 w : World} (h : Both p q D M F w0 w) (e : F = F') : Both p q D M F' w0 w := e ▸ h
set_option maxRecDepth 8000 in
set_option maxHeartbeats 16000000 in
theorem filesPlay_run (size : Int) (A : Option Addr) (n c : Nat) (l : List ActV) (w w0 : World) (S : Asn) (m : Mod w w0 S) (r : ReadsActs S A n l) (hn : n ≤ 9223372036854775807) (hi : ∀ x ∈ l, x.off ≤ 9223372036854775807 ∧ x.n ≤ 9223372036854775807) : Calls Tryz.prog 3 #[.int .i64 size, .slice A n c] w fun e w' => e = .returned (.bool true) ∧ Mod w' w0 S := by
  have HR := Lib.hid r
  have HI := Lib.hid hi
  have M0 := Lib.hid m
  by_cases hg : 40000 < weight l ∨ 200 < n
  · have HG := Lib.hid (great_spec A n c l w w0 S m r hn)
    rw [decide_eq_true hg] at HG
    clear r hi hg
    go_enter Tryz.func3, Tryz.ntmps3
    go_wp2_with (go_at_call 7; refine HG.out.mono ?_; rintro e w1 ⟨rfl, m1⟩)
    go_ret
    exact ⟨rfl, m1⟩
  · have HG := Lib.hid (great_spec A n c l w w0 S m r hn)
    rw [decide_eq_false hg] at HG
    have hwt : weight l ≤ 40000 := by omega
    have hn2 : n ≤ 200 := by omega
    have Hwt := Lib.hid hwt
    clear hg hwt r hi
    by_cases hz : size < 1 ∨ 8388608 < size
    · have HN := Lib.hid hz
      clear hz
      go_enter Tryz.func3, Tryz.ntmps3
      go_wp2_with first
        | (go_at_call 7; refine HG.out.mono ?_; rintro e w1 ⟨rfl, m1⟩)
        | (go_at_call 8; refine (new_arg size _ w0 S m1 HN.out).mono ?_; rintro e w2 ⟨rfl, m2⟩)
        | (go_at_call 9; refine (rnew_arg size _ w0 S m2 HN.out).mono ?_; rintro e w3 ⟨rfl, m3⟩)
      go_ret
      exact ⟨rfl, m3⟩
    · obtain ⟨sz, rfl⟩ : ∃ sz : Nat, size = sz := ⟨size.toNat, by omega⟩
      have hz1 : 1 ≤ sz := by omega
      have hz2 : sz ≤ 8388608 := by omega
      clear hz
      go_enter Tryz.func3, Tryz.ntmps3
      go_wp2_with first
        | (go_at_call 7; refine HG.out.mono ?_; rintro e w1 ⟨rfl, m1⟩)
        | (go_at_call 8; refine (new_ok sz _ w0 S m1 hz1 hz2).mono ?_; rintro e w2 ⟨p0, rfl, m2⟩)
        | (go_at_call 9; refine (rnew_ok sz _ w0 (diskA p0 (newDisk sz) * S) m2 hz1 hz2).mono ?_; rintro e w3 ⟨q0, rfl, m3⟩; refine Hid.out ?_)
      clear m1 m2 HG
      have hb0 : Both p0 q0 (newDisk sz) (newDisk sz) S w0 w3 := .mk' (Mod.to (m := m3) (by ac_rfl)) ⟨_, beside_new sz⟩
      have hm3 := m3
      clear m3
      have m3 : Mod w3 w0 (refA q0 (newDisk sz) * (diskA p0 (newDisk sz) * S)) := hm3
      clear hm3
      refine Lib.hid ?_
      go_wp2_with fail
      obtain ⟨kb, hkb⟩ : ∃ kb, w3.heap.size = kb := ⟨_, rfl⟩
      have mb : Mod (w3.alloc (.cells #[.int .i64 0, .slice none 0 0, .slice none 0 0, .slice none 0 0, .slice none 0 0, .slice none 0 0, .slice none 0 0, .slice none 0 0, .slice none 0 0, .slice none 0 0, .slice none 0 0, .slice none 0 0, .slice none 0 0, .slice none 0 0] 45)) w0 (Go.Sl.blk w3.heap.size (.cells #[.int .i64 0, .slice none 0 0, .slice none 0 0, .slice none 0 0, .slice none 0 0, .slice none 0 0, .slice none 0 0, .slice none 0 0, .slice none 0 0, .slice none 0 0, .slice none 0 0, .slice none 0 0, .slice none 0 0, .slice none 0 0] 45 (0, 0)) * (refA q0 (newDisk sz) * (diskA p0 (newDisk sz) * S))) := Mod.alloc (m := m3) _
      obtain ⟨W, hW⟩ : ∃ W, w3.alloc (.cells #[.int .i64 0, .slice none 0 0, .slice none 0 0, .slice none 0 0, .slice none 0 0, .slice none 0 0, .slice none 0 0, .slice none 0 0, .slice none 0 0, .slice none 0 0, .slice none 0 0, .slice none 0 0, .slice none 0 0, .slice none 0 0] 45) = W := ⟨_, rfl⟩
      rw [hkb, hW] at mb
      rw [hkb, hW]
      clear hkb hW
      have hb1 : Both p0 q0 (newDisk sz) (newDisk sz) (bookA kb none 0 [] * S) w0 W := .mk' (Mod.to (m := row_none_n (e := 159) (size := 3) mb) (by show _ = _ * (_ * ((_ * (rowA 159 3 (.slice none 0 0) 0 [] * emp)) * S)); rw [sep_emp]; ac_rfl)) ⟨_, beside_new sz⟩
      clear mb hb0 m3
      go_loopg [5, 7, 10] n (fun gk dv mv iv wr => ∃ (i p q : Nat) (D M : DiskSt) (B : Option Addr) (cB : Nat) (L : List Hd), i ≤ n ∧ gk = n - i ∧ dv = ptr p ∧ mv = ptr q ∧ iv = .int .i64 (i : Int) ∧ L.length ≤ 2 * i ∧ Hid (∀ h ∈ L, h.vs.length ≤ 10000000) ∧ Both p q D M (bookA kb B cB L * S) w0 wr)
      case atStart => exact ⟨0, p0, q0, _, _, none, 0, [], Nat.zero_le _, rfl, rfl, rfl, rfl, Nat.zero_le _, (fun h hh => by cases hh), hb1⟩
      case round =>
        obtain ⟨i, p, q, D, M, B, cB, L, hin, hgk, rfl, rfl, rfl, hLl, HV, hB⟩ := hrel
        by_cases hlt : i < n
        · have hii : (i : Int) < (n : Int) := by omega
          obtain ⟨b, o, rfl, hil, hx⟩ := reads_act hB.rest (HR.out.lift inferInstance) hlt
          clear hx
          obtain ⟨kd, nm, tox, bA, bc, bs, off, nn, nms, nb, c0, c1, c2, c3, c4, c5, c6, hnm, hto, hkd, HB, hint, hw, Hnb⟩ := act_facts HR.out HI.out Hwt.out hil
          obtain ⟨hi1, hi2⟩ := hint
          have hn1 : nm.size ≤ 9223372036854775807 := by omega
          have hn2' : tox.size ≤ 9223372036854775807 := by omega
          obtain ⟨kk, hkk⟩ : ∃ kk, kd % 10 = kk := ⟨_, rfl⟩
          have hkk2 : ((kd : Int) % 10) = (kk : Int) := by omega
          have hkk1 : kk = 0 ∨ kk = 1 ∨ kk = 2 ∨ kk = 3 ∨ kk = 4 ∨ kk = 5 ∨ kk = 6 ∨ kk = 7 ∨ kk = 8 ∨ kk = 9 := by omega
          clear hkk
          have HBo := Lib.hid hB
          have mI := hB.mod
          clear hB hb1
          go_wp2_with (go_at_call 10; refine (twin_spec bA nb bc bs _ w0 _ (Mod.alloc (m := mI) _) (reads_lift inferInstance HB.out) (by omega)).mono ?_; rintro e w6 ⟨At, ct, rfl, m6⟩; refine Hid.out ?_)
          clear c0 c1 c2 c3 c4 c5 c6 mI
          have hct := row_len_cap m6
          obtain ⟨gx, hgx⟩ : ∃ gx, wr.heap.size = gx := ⟨_, rfl⟩
          have hB6 : Both p q D M (rowA 5 1 (.slice At (nb + 1) ct) (nb + 1) (u8s (bs ++ [77])) * (Go.Sl.blk wr.heap.size (.cells #[.int .u8 (kd : Int), .string nm, .string tox, .slice bA nb bc, .int .i64 off, .int .i64 nn, .bool nms] 48 (0, 0)) * (bookA kb B cB L * S))) w0 w6 := .mk' (Mod.to (m := m6) (by ac_rfl)) HBo.out.alike
          rw [hgx] at hB6
          rw [hgx]
          have H6 := Lib.hid hB6
          have m7 := hB6.rest
          clear hB6 m6 hgx HBo
          refine Lib.hid ?_
          go_upto_block 2 with (fail)
          go_cut [5, 7, 13, 14, 15, 16, 17, 18, 19, 20, 21, 22] from 47 to 239 (fun dv mv gv hv _ _ _ _ _ _ _ _ wx => ∃ (p q : Nat) (D8 M8 : DiskSt) (B9 : Option Addr) (c9 : Nat) (L9 : List Hd) (z : Int), dv = ptr p ∧ mv = ptr q ∧ gv = .int .i64 z ∧ hv = .int .i64 z ∧ L9.length ≤ 2 * i + 1 ∧ Hid (∀ h ∈ L9, h.vs.length ≤ 10000000) ∧ Both p q D8 M8 (rowA 5 1 (.slice At (nb + 1) ct) (nb + 1) (u8s (bs ++ [77])) * (Go.Sl.blk gx (.cells #[.int .u8 (kd : Int), .string nm, .string tox, .slice bA nb bc, .int .i64 off, .int .i64 nn, .bool nms] 48 (0, 0)) * (bookA kb B9 c9 L9 * S))) w0 wx)
          case first =>
           rcases hkk1 with rfl | rfl | rfl | rfl | rfl | rfl | rfl | rfl | rfl | rfl
           · as_aux_lemma =>
             have flag := True.intro
             go_wp2_with first
               | (go_at_call 11; clear flag; refine ((create_pair hn1) _ H6.out).mono ?_; rintro e w7 ⟨z, rfl, m8, hc7⟩; have Hc7 := Lib.hid hc7; clear hc7)
             have flag := True.intro
             go_wp2_with first
               | (go_at_call 12; clear flag; refine Hc7.out.mono ?_; rintro e w8 ⟨rfl, D8, M8, h8⟩; have H8 := Lib.hid h8; have m8 := h8.rest; clear h8)
             go_wp2_with fail
             go_meet
             exact ⟨p, q, _, _, B, cB, L, z, rfl, rfl, rfl, rfl, by omega, HV.out, H8.out⟩
           · as_aux_lemma =>
             have flag := True.intro
             go_wp2_with first
               | (go_at_call 13; clear flag; refine ((remove_pair hn1) _ H6.out).mono ?_; rintro e w7 ⟨z, rfl, m8, hc7⟩; have Hc7 := Lib.hid hc7; clear hc7)
             have flag := True.intro
             go_wp2_with first
               | (go_at_call 14; clear flag; refine Hc7.out.mono ?_; rintro e w8 ⟨rfl, D8, M8, h8⟩; have H8 := Lib.hid h8; have m8 := h8.rest; clear h8)
             go_wp2_with fail
             go_meet
             exact ⟨p, q, _, _, B, cB, L, z, rfl, rfl, rfl, rfl, by omega, HV.out, H8.out⟩
           · as_aux_lemma =>
             have flag := True.intro
             go_wp2_with first
               | (go_at_call 15; clear flag; refine ((rename_pair hn1 hn2') _ H6.out).mono ?_; rintro e w7 ⟨z, rfl, m8, hc7⟩; have Hc7 := Lib.hid hc7; clear hc7)
             have flag := True.intro
             go_wp2_with first
               | (go_at_call 16; clear flag; refine Hc7.out.mono ?_; rintro e w8 ⟨rfl, D8, M8, h8⟩; have H8 := Lib.hid h8; have m8 := h8.rest; clear h8)
             go_wp2_with fail
             go_meet
             exact ⟨p, q, _, _, B, cB, L, z, rfl, rfl, rfl, rfl, by omega, HV.out, H8.out⟩
           · as_aux_lemma =>
             have rT : Reads (rowA 5 1 (.slice At (nb + 1) ct) (nb + 1) (u8s (bs ++ [77]))) At nb (u8s bs) := by
               have h1 := Reads.pre (inferInstance : Reads (rowA 5 1 (.slice At (nb + 1) ct) (nb + 1) (u8s (bs ++ [77]))) At (nb + 1) (u8s (bs ++ [77]))) nb (by omega)
               have e1 : (u8s (bs ++ [77])).take nb = u8s bs := by rw [u8s_append]; exact List.take_left' (by rw [length_u8s]; exact Hnb.out)
               rwa [e1] at h1
             have RT := Lib.hid rT
             clear rT
             have flag := True.intro
             go_wp2_with first
               | (go_at_call 17; clear flag; refine ((append_pair_n hn1 At bA nb ct bc bs Hnb.out (reads_lift inferInstance RT.out) (reads_lift inferInstance HB.out) (by omega)) _ H6.out).mono ?_; rintro e w7 ⟨z, rfl, m8, hc7⟩; have Hc7 := Lib.hid hc7; clear hc7)
             have flag := True.intro
             go_wp2_with first
               | (go_at_call 18; clear flag; refine Hc7.out.mono ?_; rintro e w8 ⟨rfl, D8, M8, h8⟩; have H8 := Lib.hid h8; have m8 := h8.rest; clear h8)
             go_wp2_with fail
             go_meet
             exact ⟨p, q, _, _, B, cB, L, z, rfl, rfl, rfl, rfl, by omega, HV.out, H8.out⟩
           · as_aux_lemma =>
             have rT : Reads (rowA 5 1 (.slice At (nb + 1) ct) (nb + 1) (u8s (bs ++ [77]))) At nb (u8s bs) := by
               have h1 := Reads.pre (inferInstance : Reads (rowA 5 1 (.slice At (nb + 1) ct) (nb + 1) (u8s (bs ++ [77]))) At (nb + 1) (u8s (bs ++ [77]))) nb (by omega)
               have e1 : (u8s (bs ++ [77])).take nb = u8s bs := by rw [u8s_append]; exact List.take_left' (by rw [length_u8s]; exact Hnb.out)
               rwa [e1] at h1
             have RT := Lib.hid rT
             clear rT
             have flag := True.intro
             go_wp2_with first
               | (go_at_call 17; clear flag; refine ((append_pair_n hn1 At bA nb ct bc bs Hnb.out (reads_lift inferInstance RT.out) (reads_lift inferInstance HB.out) (by omega)) _ H6.out).mono ?_; rintro e w7 ⟨z, rfl, m8, hc7⟩; have Hc7 := Lib.hid hc7; clear hc7)
             have flag := True.intro
             go_wp2_with first
               | (go_at_call 18; clear flag; refine Hc7.out.mono ?_; rintro e w8 ⟨rfl, D8, M8, h8⟩; have H8 := Lib.hid h8; have m8 := h8.rest; clear h8)
             go_wp2_with fail
             go_meet
             exact ⟨p, q, _, _, B, cB, L, z, rfl, rfl, rfl, rfl, by omega, HV.out, H8.out⟩
           · as_aux_lemma =>
             have flag := True.intro
             go_wp2_with first
               | (go_at_call 19; clear flag; refine (read_pair hn1 off nn hi1 _ H6.out).mono ?_; rintro e w7 ⟨l5, A5, d5, z5, rfl, mr, hll, hc7⟩; have m8 := Mod.drop (m := mr); clear mr; have Hc7 := Lib.hid hc7; clear hc7)
             have flag := True.intro
             go_wp2_with first
               | (go_at_call 20; clear flag; refine Hc7.out.mono ?_; rintro e w8 ⟨A6, d6, rfl, h8⟩; have H8a := Lib.hid h8.alike; have m9 := h8.mod; clear h8)
             have flag := True.intro
             go_wp2_with first
               | (go_at_call 21; clear flag; refine (sameBytes_spec A5 A6 l5.length l5.length d5 d6 l5 l5 _ w0 _ m9 inferInstance inferInstance (by omega) (by omega)).mono ?_; rw [decide_eq_true rfl]; rintro e w9 ⟨rfl, m10⟩)
             have m11 : Mod w9 w0 (bookA kb B cB L * (rowA 5 1 (.slice A5 l5.length d5) l5.length (u8s l5) * (rowA 5 1 (.slice At (nb + 1) ct) (nb + 1) (u8s (bs ++ [77])) * (Go.Sl.blk gx (.cells #[.int .u8 (kd : Int), .string nm, .string tox, .slice bA nb bc, .int .i64 off, .int .i64 nn, .bool nms] 48 (0, 0)) * (diskA p D * (refA q M * S)))))) := Mod.drop (A := rowA 5 1 (.slice A6 l5.length d6) l5.length (u8s l5)) (m := Mod.to (m := m10) (by ac_rfl))
             clear m8 m9 m10
             have flag := True.intro
             go_wp2_with first
               | (go_at_call 22; clear flag; refine (bytes_row kb B cB L A5 l5.length d5 (u8s l5) (length_u8s l5) _ w0 _ (by omega) m11).mono ?_; rintro e w10 ⟨rfl, B9, c9, m12⟩; refine Hid.out ?_)
             obtain ⟨L9, hL9, HV9, h8⟩ : ∃ L9, L9.length ≤ L.length + 1 ∧ Hid (∀ h ∈ L9, h.vs.length ≤ 10000000) ∧ Both p q D M (rowA 5 1 (.slice At (nb + 1) ct) (nb + 1) (u8s (bs ++ [77])) * (Go.Sl.blk gx (.cells #[.int .u8 (kd : Int), .string nm, .string tox, .slice bA nb bc, .int .i64 off, .int .i64 nn, .bool nms] 48 (0, 0)) * (bookA kb B9 c9 L9 * S))) w0 w10 := ⟨L ++ [⟨A5, d5, u8s l5⟩], by simp, vs_snoc HV.out (by show (u8s l5).length ≤ _; rw [length_u8s]; omega), .mk' (Mod.to (m := m12) (by ac_rfl)) H8a.out⟩
             obtain ⟨D8, hD8⟩ : ∃ D8, D = D8 := ⟨_, rfl⟩
             obtain ⟨M8, hM8⟩ : ∃ M8, M = M8 := ⟨_, rfl⟩
             rw [hD8, hM8] at h8
             have H8 := Lib.hid h8
             have m8 := h8.rest
             clear h8 m11 m12 hD8 hM8
             refine Lib.hid ?_
             go_wp2_with fail
             go_meet
             exact ⟨p, q, _, _, B9, c9, L9, z5, rfl, rfl, rfl, rfl, by omega, HV9.out, H8.out⟩
           · as_aux_lemma =>
             have flag := True.intro
             go_wp2_with first
               | (go_at_call 23; clear flag; refine ((sync_pair hn1) _ H6.out).mono ?_; rintro e w7 ⟨z, rfl, m8, hc7⟩; have Hc7 := Lib.hid hc7; clear hc7)
             have flag := True.intro
             go_wp2_with first
               | (go_at_call 24; clear flag; refine Hc7.out.mono ?_; rintro e w8 ⟨rfl, D8, M8, h8⟩; have H8 := Lib.hid h8; have m8 := h8.rest; clear h8)
             go_wp2_with fail
             go_meet
             exact ⟨p, q, _, _, B, cB, L, z, rfl, rfl, rfl, rfl, by omega, HV.out, H8.out⟩
           · as_aux_lemma =>
             have flag := True.intro
             go_wp2_with first
               | (go_at_call 25; clear flag; refine (names_pair' _ H6.out).mono ?_; rintro e w7 ⟨z, rfl, m8, hc7⟩; have Hc7 := Lib.hid hc7; clear hc7)
             have flag := True.intro
             go_wp2_with first
               | (go_at_call 26; clear flag; refine Hc7.out.mono ?_; rintro e w8 ⟨rfl, D8, M8, h8⟩; have H8 := Lib.hid h8; have m8 := h8.rest; clear h8)
             go_wp2_with fail
             go_meet
             exact ⟨p, q, _, _, B, cB, L, z, rfl, rfl, rfl, rfl, by omega, HV.out, H8.out⟩
           · as_aux_lemma =>
             by_cases h0 : nn < 0
             · have flag := True.intro
               go_wp2_with first
                 | (go_at_call 27; clear flag; refine (fail_pair_no nn nms h0 _ H6.out).mono ?_; rintro e w7 ⟨rfl, m8, hc7⟩; have Hc7 := Lib.hid hc7; clear hc7)
               have flag := True.intro
               go_wp2_with first
                 | (go_at_call 28; clear flag; refine Hc7.out.mono ?_; rintro e w8 ⟨rfl, h8⟩; refine Hid.out ?_)
               obtain ⟨D8, hD8⟩ : ∃ D8, D = D8 := ⟨_, rfl⟩
               obtain ⟨M8, hM8⟩ : ∃ M8, M = M8 := ⟨_, rfl⟩
               rw [hD8, hM8] at h8
               have H8 := Lib.hid h8
               have m9 := h8.rest
               clear h8 hD8 hM8 m8
               refine Lib.hid ?_
               go_wp2_with fail
               go_meet
               exact ⟨p, q, _, _, B, cB, L, 1, rfl, rfl, rfl, rfl, by omega, HV.out, H8.out⟩
             · have flag := True.intro
               go_wp2_with first
                 | (go_at_call 27; clear flag; refine (fail_pair_yes nn nms hi2 h0 _ H6.out).mono ?_; rintro e w7 ⟨p5, rfl, m8, hc7⟩; have Hc7 := Lib.hid hc7; clear hc7)
               have flag := True.intro
               go_wp2_with first
                 | (go_at_call 28; clear flag; refine Hc7.out.mono ?_; rintro e w8 ⟨q5, D5, M5, rfl, hal, _hok, h8⟩; have Hal := Lib.hid hal; have H8b := Lib.hid h8; have m9 := h8.rest; clear h8 hal m8)
               have flag := True.intro
               go_wp2_with first
                 | (go_at_call 29; clear flag; refine (same5_spec H8b.out).mono ?_; rintro e w9 ⟨rfl, h9⟩; refine Hid.out ?_)
               have h10 : Both p5 q5 D5 M5 (rowA 5 1 (.slice At (nb + 1) ct) (nb + 1) (u8s (bs ++ [77])) * (Go.Sl.blk gx (.cells #[.int .u8 (kd : Int), .string nm, .string tox, .slice bA nb bc, .int .i64 off, .int .i64 nn, .bool nms] 48 (0, 0)) * (bookA kb B cB L * S))) w0 w9 := h9.less.less
               obtain ⟨D8, hD8⟩ : ∃ D8, D5 = D8 := ⟨_, rfl⟩
               obtain ⟨M8, hM8⟩ : ∃ M8, M5 = M8 := ⟨_, rfl⟩
               rw [hD8, hM8] at h10
               have H8 := Lib.hid h10
               have m10a := h10.rest
               clear h9 h10 hD8 hM8 m9
               refine Lib.hid ?_
               go_wp2_with fail
               go_meet
               exact ⟨p5, q5, _, _, B, cB, L, 0, rfl, rfl, rfl, rfl, by omega, HV.out, H8.out⟩
           · as_aux_lemma =>
             by_cases h0 : nn < 0
             · have flag := True.intro
               go_wp2_with first
                 | (go_at_call 27; clear flag; refine (fail_pair_no nn nms h0 _ H6.out).mono ?_; rintro e w7 ⟨rfl, m8, hc7⟩; have Hc7 := Lib.hid hc7; clear hc7)
               have flag := True.intro
               go_wp2_with first
                 | (go_at_call 28; clear flag; refine Hc7.out.mono ?_; rintro e w8 ⟨rfl, h8⟩; refine Hid.out ?_)
               obtain ⟨D8, hD8⟩ : ∃ D8, D = D8 := ⟨_, rfl⟩
               obtain ⟨M8, hM8⟩ : ∃ M8, M = M8 := ⟨_, rfl⟩
               rw [hD8, hM8] at h8
               have H8 := Lib.hid h8
               have m9 := h8.rest
               clear h8 hD8 hM8 m8
               refine Lib.hid ?_
               go_wp2_with fail
               go_meet
               exact ⟨p, q, _, _, B, cB, L, 1, rfl, rfl, rfl, rfl, by omega, HV.out, H8.out⟩
             · have flag := True.intro
               go_wp2_with first
                 | (go_at_call 27; clear flag; refine (fail_pair_yes nn nms hi2 h0 _ H6.out).mono ?_; rintro e w7 ⟨p5, rfl, m8, hc7⟩; have Hc7 := Lib.hid hc7; clear hc7)
               have flag := True.intro
               go_wp2_with first
                 | (go_at_call 28; clear flag; refine Hc7.out.mono ?_; rintro e w8 ⟨q5, D5, M5, rfl, hal, _hok, h8⟩; have Hal := Lib.hid hal; have H8b := Lib.hid h8; have m9 := h8.rest; clear h8 hal m8)
               have flag := True.intro
               go_wp2_with first
                 | (go_at_call 29; clear flag; refine (same5_spec H8b.out).mono ?_; rintro e w9 ⟨rfl, h9⟩; refine Hid.out ?_)
               have h10 : Both p q D M (rowA 5 1 (.slice At (nb + 1) ct) (nb + 1) (u8s (bs ++ [77])) * (Go.Sl.blk gx (.cells #[.int .u8 (kd : Int), .string nm, .string tox, .slice bA nb bc, .int .i64 off, .int .i64 nn, .bool nms] 48 (0, 0)) * (bookA kb B cB L * S))) w0 w9 := .mk' (Mod.drop (A := diskA p5 D5 * refA q5 M5) (m := Mod.to (m := h9.mod) (by ac_rfl))) Hal.out
               obtain ⟨D8, hD8⟩ : ∃ D8, D = D8 := ⟨_, rfl⟩
               obtain ⟨M8, hM8⟩ : ∃ M8, M = M8 := ⟨_, rfl⟩
               rw [hD8, hM8] at h10
               have H8 := Lib.hid h10
               have m10a := h10.rest
               clear h9 h10 hD8 hM8 m9
               refine Lib.hid ?_
               go_wp2_with fail
               go_meet
               exact ⟨p, q, _, _, B, cB, L, 0, rfl, rfl, rfl, rfl, by omega, HV.out, H8.out⟩
          case rest =>
            obtain ⟨p1, q1, D8, M8, B9, c9, L9, z, rfl, rfl, rfl, rfl, hL9, HV9, h8⟩ := hcut
            have H8 := Lib.hid h8
            have m8 := h8.rest
            clear h8 m7 H6
            as_aux_lemma =>
            have flag := True.intro
            go_wp2_with first
              | (go_at_call 30; clear flag; refine (size_pair hn1 _ H8.out).mono ?_; rintro e w9 ⟨sz9, z9, rfl, m9, hc9⟩; have Hc9 := Lib.hid hc9; clear hc9)
            have flag := True.intro
            go_wp2_with first
              | (go_at_call 31; clear flag; refine Hc9.out.mono ?_; rintro e w10 ⟨rfl, h10⟩; have H10 := Lib.hid h10; have m10 := h10.rest; clear h10)
            have flag := True.intro
            go_wp2_with first
              | (go_at_call 32; clear flag; refine (left_pair' _ H10.out).mono ?_; rintro e w11 ⟨nl, rfl, m11, hc11⟩; have Hc11 := Lib.hid hc11; clear hc11)
            have flag := True.intro
            go_wp2_with first
              | (go_at_call 33; clear flag; refine Hc11.out.mono ?_; rintro e w12 ⟨rfl, h12⟩; have H12 := Lib.hid h12.alike; have m12 := h12.mod; clear h12)
            have flag := True.intro
            go_wp2_with first
              | (go_at_call 34; clear flag; refine (leftBytes_spec At bA nb ct bc bs _ w0 _ m12 inferInstance (reads_lift inferInstance HB.out) hct (by omega)).mono ?_; rintro e w13 ⟨rfl, m13⟩)
            have m14 : Mod w13 w0 (bookA kb B9 c9 L9 * (rowA 5 1 (.slice At nb ct) nb (u8s bs) * (Go.Sl.blk gx (.cells #[.int .u8 (kd : Int), .string nm, .string tox, .slice bA nb bc, .int .i64 off, .int .i64 nn, .bool nms] 48 (0, 0)) * (diskA p1 D8 * (refA q1 M8 * S))))) := by
              have h1 := Mod.to (m := m13) (S' := rowA 5 1 (.slice At (nb + 1) ct) (nb + 1) (u8s (bs ++ [77])) * (Go.Sl.blk gx (.cells #[.int .u8 (kd : Int), .string nm, .string tox, .slice bA nb bc, .int .i64 off, .int .i64 nn, .bool nms] 48 (0, 0)) * (diskA p1 D8 * (refA q1 M8 * (bookA kb B9 c9 L9 * S))))) (by ac_rfl)
              rw [u8s_append] at h1
              exact Mod.to (m := row_less (by rw [length_u8s]; exact Hnb.out) h1) (by ac_rfl)
            clear m9 m10 m11 m12
            have flag := True.intro
            go_wp2_with first
              | (go_at_call 22; clear flag; refine (bytes_row kb B9 c9 L9 At nb ct (u8s bs) (by rw [length_u8s]; exact Hnb.out) _ w0 _ (by  omega) m14).mono ?_; rintro e w15 ⟨rfl, B15, c15, m15⟩)
            go_roundg (n - (i + 1))
            case measure => omega
            case rel => exact ⟨i + 1, p1, q1, D8, M8, B15, c15, L9 ++ [⟨At, ct, u8s bs⟩], hlt, rfl, rfl, rfl, by go_num, by rw [List.length_append, List.length_singleton]; omega, vs_snoc HV9.out (by show (u8s bs).length ≤ _; rw [length_u8s, Hnb.out]; omega), .mk' (Mod.drop (A := Go.Sl.blk gx (.cells #[.int .u8 (kd : Int), .string nm, .string tox, .slice bA nb bc, .int .i64 off, .int .i64 nn, .bool nms] 48 (0, 0))) (m := Mod.to (m := m15) (by ac_rfl))) H12.out⟩
        · have hin2 : i = n := by omega
          have hii : ¬ (i : Int) < (n : Int) := by omega
          have HBo := Lib.hid hB
          have mI := hB.mod
          clear hB hb1
          have flag := True.intro
          go_wp2_with first
            | (go_at_call 29; clear flag; refine (same5_spec HBo.out).mono ?_; rintro e w5 ⟨rfl, h5⟩; have m5 := Mod.drop (A := diskA p D * refA q M) (m := Mod.to (m := h5.mod) (S' := (diskA p D * refA q M) * (bookA kb B cB L * S)) (by ac_rfl)))
            | (go_at_call 35; refine (apart_spec kb B cB L _ w0 S (by omega) HV.out m5).mono ?_; rintro e w6 ⟨rfl, m6⟩)
          go_ret
          exact ⟨rfl, m6⟩
theorem filesPlay_walk (size : Int) (A : Option Addr) (n c : Nat) (w w0 : World) (S : Asn) [m : Mod w w0 S] {q : Prop} (_ : q) (hs : ∃ l, ReadsActs S A n l ∧ n ≤ 9223372036854775807 ∧ ∀ x ∈ l, x.off ≤ 9223372036854775807 ∧ x.n ≤ 9223372036854775807) :
    Calls Tryz.prog 3 #[.int .i64 size, .slice A n c] w fun e w' => e = .returned (.bool true) ∧ Mod w' w0 S := by
  obtain ⟨l, hr, hn, hi⟩ := hs
  exact filesPlay_run size A n c l w w0 S m hr hn hi
end Go.Proofs.YtcakdaadbpimaaaGreatDoor
