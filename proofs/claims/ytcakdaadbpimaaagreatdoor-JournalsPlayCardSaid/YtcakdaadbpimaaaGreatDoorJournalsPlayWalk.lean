/- The walk of bucketlinelaw06's JournalsPlay. -/
import Derived.Test.YtcakdaadbpimaaaGreatDoorJourPair2
import Derived.Test.YtcakdaadbpimaaaGreatDoorBookRecs
import Derived.Test.YtcakdaadbpimaaaGreatDoorActs6
import Derived.Test.YtcakdaadbpimaaaGreatDoorPlayOps
import Derived.Deep.DeepCutAuto
import Derived.Deep.CutBlock
namespace Go.Proofs.YtcakdaadbpimaaaGreatDoor
open Go.RowKit Go.Sl
attribute [local go_sem] cell_of cellAt_of frozen_of
/-- A row without its last element. -/
theorem row_less {w w0 : World} {e n c : Nat} {A : Option Addr} {xs : List Value} {v : Value} {F : Asn} (hl : xs.length = n) (m : Mod w w0 (rowA e 1 (.slice A (n + 1) c) (n + 1) (xs ++ [v]) * F)) : Mod w w0 (rowA e 1 (.slice A n c) n xs * F) := by
  obtain ⟨g, cur, rfl, h1, h2, h3, h4, h5, m2⟩ := row_open_n m (by omega)
  refine row_shut_n m2 (by omega) h2 h4 (by omega) ?_
  rw [Nat.mul_one] at h5 ⊢
  have : (cur.toList.take (n + 1)).take n = xs := by rw [h5, ← hl]; exact List.take_left
  rwa [List.take_take, Nat.min_eq_left (by omega)] at this
/-- One list more in the book: a row. -/
theorem bytes_row (k : Nat) (B : Option Addr) (cB : Nat) (L : List Hd) (A : Option Addr) (n c : Nat) (xs : List Value) (hl : xs.length = n) (w w0 : World) (F : Asn) (hL : L.length ≤ 20000000) (m : Mod w w0 (bookA k B cB L * (rowA 5 1 (.slice A n c) n xs * F))) :
    Calls Tryz.prog 22 #[ptr k, .slice A n c] w fun e w' => e = .returned (.tuple #[]) ∧ ∃ B' cB', Mod w' w0 (bookA k B' cB' (L ++ [⟨A, c, xs⟩]) * F) := by
  subst hl
  exact bytes_spec k B cB L ⟨A, c, xs⟩ w w0 F hL m
theorem vs_append {L L' : List Hd} (HV : ∀ h ∈ L, h.vs.length ≤ 10000000) (h1 : ∀ h ∈ L', h.vs.length ≤ 10000000) : ∀ g ∈ L ++ L', g.vs.length ≤ 10000000 := by
  intro g hg
  rcases List.mem_append.1 hg with hg | hg
  · exact HV g hg
  · exact h1 g hg
/-- What is known of an act that came in. -/
theorem act6_facts {S : Asn} {b o n : Nat} {l : List Act6V} (r : ReadsActs6 S (some ⟨b, o, none⟩) n l) (hwt : weight6 l ≤ 40000) {k : Nat} (hk : k < l.length) :
    ∃ (kd : Nat) (bA : Option Addr) (bc : Nat) (bs : List UInt8) (keep : Nat) (nms : Bool) (nb : Nat), CellAt S b (o + k * 4) (.int .u8 (kd : Int)) ∧ CellAt S b (o + k * 4 + 1) (.slice bA nb bc) ∧ CellAt S b (o + k * 4 + 2) (.int .u16 (keep : Int)) ∧ CellAt S b (o + k * 4 + 3) (.bool nms) ∧
      kd < 256 ∧ Hid (Reads S bA nb (u8s bs)) ∧ keep < 65536 ∧ nb ≤ 40000 ∧ nb ≤ bc ∧ Hid (bs.length = nb) := by
  obtain ⟨c0, c1, c2, c3⟩ := act6_at_cells r hk
  have hsm := r.small _ (List.getElem_mem hk)
  have hw : l[k].b.length ≤ 40000 := by
    have h1 := weight6_take_succ l k hk
    have h2 := weight6_take_le l (k + 1)
    have h4 : l[k].weight = 1 + l[k].b.length := rfl
    omega
  exact ⟨_, _, _, l[k].b, _, _, _, c0, c1, c2, c3, r.kinds _ (List.getElem_mem hk), r.bytes _ (List.getElem_mem hk), hsm.2.1, hw, hsm.2.2, rfl⟩
theorem new_int (z : Int) (sz : Nat) (hz : z = (sz : Int)) (w w0 : World) (S : Asn) (m : Mod w w0 S) (h1 : 1 ≤ sz) (h2 : sz ≤ 8388608) : Calls Tryz.prog 8 #[.int .i64 z] w fun e w' => ∃ p, e = .returned (.tuple #[ptr p, .int .i64 0]) ∧ Mod w' w0 (diskA p (newDisk sz) * S) := by
  subst hz; exact new_ok sz w w0 S m h1 h2
theorem rnew_int (z : Int) (sz : Nat) (hz : z = (sz : Int)) (w w0 : World) (S : Asn) (m : Mod w w0 S) (h1 : 1 ≤ sz) (h2 : sz ≤ 8388608) : Calls Tryz.prog 9 #[.int .i64 z] w fun e w' => ∃ p, e = .returned (.tuple #[ptr p, .int .i64 0]) ∧ Mod w' w0 (refA p (newDisk sz) * S) := by
  subst hz; exact rnew_ok sz w w0 S m h1 h2
theorem JBoth.turn {p q j k en : Nat} {name : ByteArray} {D M : DiskSt} {F F' : Asn} {w0 w : World} (h : JBoth p q j k name en D M F w0 w) {w1 : World} (m : Mod w1 w0 (diskA p D * (refA q M * (jourA j p name en * (rjourA k q name en * F'))))) : JBoth p q j k name en D M F' w0 w1 := ⟨.mk' m h.both.alike, h.only⟩
set_option maxRecDepth 8000 in
set_option maxHeartbeats 16000000 in
theorem journalsPlay_run (size : Nat) (hsz : size < 65536) (name : ByteArray) (hs : name.size ≤ 4611686018427387903) (A : Option Addr) (n c : Nat) (l : List Act6V) (w w0 : World) (S : Asn) (m : Mod w w0 S) (r : ReadsActs6 S A n l) (hn : n ≤ 9223372036854775807) : Calls Tryz.prog 4 #[.int .u16 (size : Int), .string name, .slice A n c] w fun e w' => e = .returned (.bool true) ∧ Mod w' w0 S := by
  have HR := Lib.hid r
  have HG := Lib.hid (great06_spec A n c l w w0 S m r hn)
  have hs9 : name.size ≤ 9223372036854775807 := by omega
  by_cases hg : 40000 < weight6 l ∨ 100 < n
  · rw [decide_eq_true hg] at HG
    clear r hg
    go_enter Tryz.func4, Tryz.ntmps4
    go_wp2_with (go_at_call 36; refine HG.out.mono ?_; rintro e w1 ⟨rfl, m1⟩)
    go_ret
    exact ⟨rfl, m1⟩
  · rw [decide_eq_false hg] at HG
    have hwt : weight6 l ≤ 40000 := by omega
    have hn2 : n ≤ 100 := by omega
    have Hwt := Lib.hid hwt
    clear hg hwt r
    by_cases hnm : 1000 < name.size
    · have hnmi : (1000 : Int) < (name.size : Int) := by omega
      go_enter Tryz.func4, Tryz.ntmps4
      go_wp2_with (go_at_call 36; refine HG.out.mono ?_; rintro e w1 ⟨rfl, m1⟩)
      go_ret
      exact ⟨rfl, m1⟩
    · have hnmi : ¬ (1000 : Int) < (name.size : Int) := by omega
      obtain ⟨sz, hszz⟩ : ∃ sz : Nat, 1 + size = sz := ⟨_, rfl⟩
      have hszi : 1 + (size : Int) = (sz : Int) := by omega
      have hz1 : 1 ≤ sz := by omega
      have hz2 : sz ≤ 8388608 := by omega
      have Hszi := Lib.hid hszi
      clear hszz hszi
      cases hnk : nameOk name with
      | false =>
        have Hnk := Lib.hid hnk
        clear hnk
        go_enter Tryz.func4, Tryz.ntmps4
        go_wp2_with first
          | (go_at_call 36; refine HG.out.mono ?_; rintro e w1 ⟨rfl, m1⟩)
          | (go_at_call 8; refine (new_int _ sz Hszi.out _ w0 S m1 hz1 hz2).mono ?_; rintro e w2 ⟨p0, rfl, m2⟩)
          | (go_at_call 9; refine (rnew_int _ sz Hszi.out _ w0 (diskA p0 (newDisk sz) * S) m2 hz1 hz2).mono ?_; rintro e w3 ⟨q0, rfl, m3⟩)
          | (go_at_call 37; refine (jopen_arg p0 (newDisk sz) name _ w0 _ (Mod.to (m := m3) (by ac_rfl) : Mod _ w0 (diskA p0 (newDisk sz) * (refA q0 (newDisk sz) * S))) hs9 Hnk.out).mono ?_; rintro e w4 ⟨rfl, m4⟩)
          | (go_at_call 38; refine (r6open_arg q0 (newDisk sz) name _ w0 _ (Mod.to (m := m4) (by ac_rfl) : Mod _ w0 (refA q0 (newDisk sz) * (diskA p0 (newDisk sz) * S))) hs9 Hnk.out).mono ?_; rintro e w5 ⟨rfl, m5⟩)
        go_ret
        exact ⟨rfl, Mod.keep m5⟩
      | true =>
        have Hnk := Lib.hid hnk
        clear hnk
        go_enter Tryz.func4, Tryz.ntmps4
        go_wp2_with first
          | (go_at_call 36; refine HG.out.mono ?_; rintro e w1 ⟨rfl, m1⟩)
          | (go_at_call 8; refine (new_int _ sz Hszi.out _ w0 S m1 hz1 hz2).mono ?_; rintro e w2 ⟨p0, rfl, m2⟩)
          | (go_at_call 9; refine (rnew_int _ sz Hszi.out _ w0 (diskA p0 (newDisk sz) * S) m2 hz1 hz2).mono ?_; rintro e w3 ⟨q0, rfl, m3⟩; refine Hid.out ?_)
        have hb0 : Both p0 q0 (newDisk sz) (newDisk sz) S w0 w3 := .mk' (Mod.to (m := m3) (by ac_rfl)) ⟨_, beside_new sz⟩
        have ho0 : Only name (newDisk sz) := ⟨(fun x hx => by cases hx), (fun x hx => by cases hx)⟩
        have HO := Lib.hid (jopen_pair hs9 Hnk.out ho0 _ hb0)
        clear m1 m2 HG hb0 ho0
        refine Lib.hid ?_
        have flag := True.intro
        go_wp2_with first
          | (go_at_call 37; clear flag; refine HO.out.mono ?_; rintro e w4 ⟨j0, A0, n0, rfl, m4, _, hn0, hc4⟩; obtain rfl : n0 = 0 := hn0 rfl; have Hc4 := Lib.hid hc4; clear hc4 hn0 m3; refine Hid.out ?_)
        refine Lib.hid ?_
        have flag := True.intro
        go_wp2_with first
          | (go_at_call 38; clear flag; refine Hc4.out.mono ?_; rintro e w5 ⟨k0, B0, c0, D0, M0, en0, rs0, R1, R2, rfl, hrl, _, _, _, hJ⟩; refine Hid.out ?_)
        have hJ1 : JBoth p0 q0 j0 k0 name en0 D0 M0 S w0 w5 := hJ.turn (Mod.keep hJ.both.mod)
        have HJ1 := Lib.hid hJ1
        have m5 := hJ1.rest
        clear hJ hJ1 m4 hrl
        refine Lib.hid ?_
        go_wp2_with fail
        obtain ⟨kb, hkb⟩ : ∃ kb, w5.heap.size = kb := ⟨_, rfl⟩
        have mb : Mod (w5.alloc (.cells #[.int .i64 0, .slice none 0 0, .slice none 0 0, .slice none 0 0, .slice none 0 0, .slice none 0 0, .slice none 0 0, .slice none 0 0, .slice none 0 0, .slice none 0 0, .slice none 0 0, .slice none 0 0, .slice none 0 0, .slice none 0 0] 45)) w0 (Go.Sl.blk w5.heap.size (.cells #[.int .i64 0, .slice none 0 0, .slice none 0 0, .slice none 0 0, .slice none 0 0, .slice none 0 0, .slice none 0 0, .slice none 0 0, .slice none 0 0, .slice none 0 0, .slice none 0 0, .slice none 0 0, .slice none 0 0, .slice none 0 0] 45 (0, 0)) * (diskA p0 D0 * (refA q0 M0 * (jourA j0 p0 name en0 * (rjourA k0 q0 name en0 * S))))) := Mod.alloc (m := HJ1.out.both.mod) _
        obtain ⟨W, hW⟩ : ∃ W, w5.alloc (.cells #[.int .i64 0, .slice none 0 0, .slice none 0 0, .slice none 0 0, .slice none 0 0, .slice none 0 0, .slice none 0 0, .slice none 0 0, .slice none 0 0, .slice none 0 0, .slice none 0 0, .slice none 0 0, .slice none 0 0, .slice none 0 0] 45) = W := ⟨_, rfl⟩
        rw [hkb, hW] at mb
        rw [hkb, hW]
        clear hkb hW m5
        have hb1 : JBoth p0 q0 j0 k0 name en0 D0 M0 (bookA kb none 0 [] * S) w0 W := HJ1.out.turn (Mod.to (m := row_none_n (e := 159) (size := 3) mb) (by show _ = _ * (_ * (_ * (_ * ((_ * (rowA 159 3 (.slice none 0 0) 0 [] * emp)) * S)))); rw [sep_emp]; ac_rfl))
        clear mb HJ1
        go_loopg [7, 9, 11, 13, 16] n (fun gk dv cv jv mv iv wr => ∃ (i p q j k en : Nat) (D M : DiskSt) (B : Option Addr) (cB : Nat) (L : List Hd), i ≤ n ∧ gk = n - i ∧ dv = ptr p ∧ cv = ptr q ∧ jv = ptr j ∧ mv = ptr k ∧ iv = .int .i64 (i : Int) ∧ L.length ≤ 150001 * i ∧ Hid (∀ h ∈ L, h.vs.length ≤ 10000000) ∧ JBoth p q j k name en D M (bookA kb B cB L * S) w0 wr)
        case atStart => exact ⟨0, p0, q0, j0, k0, en0, _, _, none, 0, [], Nat.zero_le _, rfl, rfl, rfl, rfl, rfl, rfl, Nat.zero_le _, (fun h hh => by cases hh), hb1⟩
        case round =>
          obtain ⟨i, p, q, j, k, en, D, M, B, cB, L, hin, hgk, rfl, rfl, rfl, rfl, rfl, hLl, HV, hB⟩ := hrel
          by_cases hlt : i < n
          · have hii : (i : Int) < (n : Int) := by omega
            obtain ⟨b, o, rfl⟩ := acts6_some hB.rest (HR.out.lift inferInstance) hlt
            have hil : i < l.length := by rw [HR.out.len]; exact hlt
            obtain ⟨kd, bA, bc, bs, keep, nms, nb, c0, c1, c2, c3, hkd, HB, hkeep, hw, hbc, Hnb⟩ := act6_facts HR.out Hwt.out hil
            obtain ⟨kk, hkk⟩ : ∃ kk, kd % 9 = kk := ⟨_, rfl⟩
            have hkk2 : ((kd : Int) % 9) = (kk : Int) := by omega
            have hkk1 : kk = 0 ∨ kk = 1 ∨ kk = 2 ∨ kk = 3 ∨ kk = 4 ∨ kk = 5 ∨ kk = 6 ∨ kk = 7 ∨ kk = 8 := by omega
            clear hkk
            have HBo := Lib.hid hB
            have mI := hB.both.mod
            clear hB hb1
            go_wp2_with (go_at_call 10; refine (twin_spec bA nb bc bs _ w0 _ (Mod.alloc (m := mI) _) (reads_lift inferInstance HB.out) (by omega)).mono ?_; rintro e w6 ⟨At, ct, rfl, m6⟩; refine Hid.out ?_)
            clear c0 c1 c2 c3 mI
            have hct := row_len_cap m6
            obtain ⟨gx, hgx⟩ : ∃ gx, wr.heap.size = gx := ⟨_, rfl⟩
            have hB6 : JBoth p q j k name en D M (rowA 5 1 (.slice At (nb + 1) ct) (nb + 1) (u8s (bs ++ [77])) * (Go.Sl.blk wr.heap.size (.cells #[.int .u8 (kd : Int), .slice bA nb bc, .int .u16 (keep : Int), .bool nms] 77 (0, 0)) * (bookA kb B cB L * S))) w0 w6 := HBo.out.turn (Mod.to (m := m6) (by ac_rfl))
            rw [hgx] at hB6
            rw [hgx]
            have H6 := Lib.hid hB6
            have m7 := hB6.rest
            clear hB6 m6 hgx HBo
            refine Lib.hid ?_
            go_upto_block 2 with (fail)
            go_cut [7, 9, 11, 13, 19, 20, 21, 22, 23, 24, 25, 26, 27, 28, 29, 30] from 85 to 226 (fun dv cv jv mv gv hv _ _ _ _ _ _ _ _ _ _ wx => ∃ (p q j k en : Nat) (D8 M8 : DiskSt) (B9 : Option Addr) (c9 : Nat) (L9 : List Hd) (z : Int), dv = ptr p ∧ cv = ptr q ∧ jv = ptr j ∧ mv = ptr k ∧ gv = .int .i64 z ∧ hv = .int .i64 z ∧ L9.length ≤ 150001 * i + 150000 ∧ Hid (∀ h ∈ L9, h.vs.length ≤ 10000000) ∧ JBoth p q j k name en D8 M8 (rowA 5 1 (.slice At (nb + 1) ct) (nb + 1) (u8s (bs ++ [77])) * (Go.Sl.blk gx (.cells #[.int .u8 (kd : Int), .slice bA nb bc, .int .u16 (keep : Int), .bool nms] 77 (0, 0)) * (bookA kb B9 c9 L9 * S))) w0 wx)
            case first =>
             rcases hkk1 with rfl | rfl | rfl | rfl | rfl | rfl | rfl | rfl | rfl
             · as_aux_lemma =>
               have rT : Reads (rowA 5 1 (.slice At (nb + 1) ct) (nb + 1) (u8s (bs ++ [77]))) At nb (u8s bs) := by
                 have h1 := Reads.pre (inferInstance : Reads (rowA 5 1 (.slice At (nb + 1) ct) (nb + 1) (u8s (bs ++ [77]))) At (nb + 1) (u8s (bs ++ [77]))) nb (by omega)
                 have e1 : (u8s (bs ++ [77])).take nb = u8s bs := by rw [u8s_append]; exact List.take_left' (by rw [length_u8s]; exact Hnb.out)
                 rwa [e1] at h1
               have RT := Lib.hid rT
               clear rT
               have flag := True.intro
               go_wp2_with first
                 | (go_at_call 39; clear flag; refine ((jadd_pair hs9 Hnk.out At bA nb ct bc bs Hnb.out (reads_lift inferInstance RT.out) (reads_lift inferInstance HB.out) (by omega) hbc (by omega)) _ H6.out).mono ?_; rintro e w7 ⟨z, rfl, m8, hc7⟩; have Hc7 := Lib.hid hc7; clear hc7)
               have flag := True.intro
               go_wp2_with first
                 | (go_at_call 40; clear flag; refine Hc7.out.mono ?_; rintro e w8 ⟨rfl, D8, M8, en8, h8⟩; have H8 := Lib.hid h8; have m8 := h8.rest; clear h8)
               go_wp2_with fail
               go_meet
               exact ⟨p, q, j, k, _, _, _, B, cB, L, z, rfl, rfl, rfl, rfl, rfl, rfl, by omega, HV.out, H8.out⟩
             · as_aux_lemma =>
               have rT : Reads (rowA 5 1 (.slice At (nb + 1) ct) (nb + 1) (u8s (bs ++ [77]))) At nb (u8s bs) := by
                 have h1 := Reads.pre (inferInstance : Reads (rowA 5 1 (.slice At (nb + 1) ct) (nb + 1) (u8s (bs ++ [77]))) At (nb + 1) (u8s (bs ++ [77]))) nb (by omega)
                 have e1 : (u8s (bs ++ [77])).take nb = u8s bs := by rw [u8s_append]; exact List.take_left' (by rw [length_u8s]; exact Hnb.out)
                 rwa [e1] at h1
               have RT := Lib.hid rT
               clear rT
               have flag := True.intro
               go_wp2_with first
                 | (go_at_call 39; clear flag; refine ((jadd_pair hs9 Hnk.out At bA nb ct bc bs Hnb.out (reads_lift inferInstance RT.out) (reads_lift inferInstance HB.out) (by omega) hbc (by omega)) _ H6.out).mono ?_; rintro e w7 ⟨z, rfl, m8, hc7⟩; have Hc7 := Lib.hid hc7; clear hc7)
               have flag := True.intro
               go_wp2_with first
                 | (go_at_call 40; clear flag; refine Hc7.out.mono ?_; rintro e w8 ⟨rfl, D8, M8, en8, h8⟩; have H8 := Lib.hid h8; have m8 := h8.rest; clear h8)
               go_wp2_with fail
               go_meet
               exact ⟨p, q, j, k, _, _, _, B, cB, L, z, rfl, rfl, rfl, rfl, rfl, rfl, by omega, HV.out, H8.out⟩
             · as_aux_lemma =>
               have rT : Reads (rowA 5 1 (.slice At (nb + 1) ct) (nb + 1) (u8s (bs ++ [77]))) At nb (u8s bs) := by
                 have h1 := Reads.pre (inferInstance : Reads (rowA 5 1 (.slice At (nb + 1) ct) (nb + 1) (u8s (bs ++ [77]))) At (nb + 1) (u8s (bs ++ [77]))) nb (by omega)
                 have e1 : (u8s (bs ++ [77])).take nb = u8s bs := by rw [u8s_append]; exact List.take_left' (by rw [length_u8s]; exact Hnb.out)
                 rwa [e1] at h1
               have RT := Lib.hid rT
               clear rT
               have flag := True.intro
               go_wp2_with first
                 | (go_at_call 39; clear flag; refine ((jadd_pair hs9 Hnk.out At bA nb ct bc bs Hnb.out (reads_lift inferInstance RT.out) (reads_lift inferInstance HB.out) (by omega) hbc (by omega)) _ H6.out).mono ?_; rintro e w7 ⟨z, rfl, m8, hc7⟩; have Hc7 := Lib.hid hc7; clear hc7)
               have flag := True.intro
               go_wp2_with first
                 | (go_at_call 40; clear flag; refine Hc7.out.mono ?_; rintro e w8 ⟨rfl, D8, M8, en8, h8⟩; have H8 := Lib.hid h8; have m8 := h8.rest; clear h8)
               go_wp2_with fail
               go_meet
               exact ⟨p, q, j, k, _, _, _, B, cB, L, z, rfl, rfl, rfl, rfl, rfl, rfl, by omega, HV.out, H8.out⟩
             · as_aux_lemma =>
               have flag := True.intro
               go_wp2_with first
                 | (go_at_call 41; clear flag; refine ((jsync_pair hs9 Hnk.out) _ H6.out).mono ?_; rintro e w7 ⟨z, rfl, m8, hc7⟩; have Hc7 := Lib.hid hc7; clear hc7)
               have flag := True.intro
               go_wp2_with first
                 | (go_at_call 42; clear flag; refine Hc7.out.mono ?_; rintro e w8 ⟨rfl, D8, M8, en8, h8⟩; have H8 := Lib.hid h8; have m8 := h8.rest; clear h8)
               go_wp2_with fail
               go_meet
               exact ⟨p, q, j, k, _, _, _, B, cB, L, z, rfl, rfl, rfl, rfl, rfl, rfl, by omega, HV.out, H8.out⟩
             · as_aux_lemma =>
               have flag := True.intro
               go_wp2_with first
                 | (go_at_call 25; clear flag; refine (jnames_pair _ H6.out).mono ?_; rintro e w7 ⟨z, rfl, m8, hc7⟩; have Hc7 := Lib.hid hc7; clear hc7)
               have flag := True.intro
               go_wp2_with first
                 | (go_at_call 26; clear flag; refine Hc7.out.mono ?_; rintro e w8 ⟨rfl, D8, M8, en8, h8⟩; have H8 := Lib.hid h8; have m8 := h8.rest; clear h8)
               go_wp2_with fail
               go_meet
               exact ⟨p, q, j, k, _, _, _, B, cB, L, z, rfl, rfl, rfl, rfl, rfl, rfl, by omega, HV.out, H8.out⟩
             · as_aux_lemma =>
               have HF := Lib.hid (fail_pair_only H6.out.only (keep : Int) nms (by omega) (by omega) _ H6.out.both)
               have flag := True.intro
               go_wp2_with first
                 | (go_at_call 27; clear flag; refine HF.out.mono ?_; rintro e w7 ⟨p5, rfl, m8, hc7⟩; have Hc7 := Lib.hid hc7; clear hc7)
               have flag := True.intro
               go_wp2_with first
                 | (go_at_call 28; clear flag; refine Hc7.out.mono ?_; rintro e w8 ⟨q5, D5, M5, rfl, ho5, h5⟩; have HO := Lib.hid (jopen_pair hs9 Hnk.out ho5 _ h5); have m9 := h5.rest; clear h5 ho5 m8; refine Hid.out ?_)
               refine Lib.hid ?_
               have flag := True.intro
               go_wp2_with first
                 | (go_at_call 37; clear flag; refine HO.out.mono ?_; rintro e w11 ⟨j9, A9, n9, rfl, m11, hn9, _, hc9⟩; have Hc9 := Lib.hid hc9; clear hc9)
               have flag := True.intro
               go_wp2_with first
                 | (go_at_call 38; clear flag; refine Hc9.out.mono ?_; rintro e w12 ⟨k9, B9, c9, D9, M9, en9, rs, R1, R2, rfl, hrl, hrs, hr1, hr2, hJ⟩; have HJ := Lib.hid hJ; have m12 := hJ.both.mod; have Hr1 := Lib.hid hr1; have Hrs := Lib.hid hrs; have Hrl := Lib.hid hrl; clear hJ m11 hrs hrl)
               have flag := True.intro
               go_wp2_with first
                 | (go_at_call 43; clear flag; refine (sameRecords_spec A9 B9 n9 n9 n9 c9 rs rs _ w0 _ m12 ((by rw [← Hrl.out]; exact hr1.reads : ReadsRecs R1 A9 n9 rs).lift inferInstance) (hr2.lift inferInstance) (by omega) (by omega) (fun s hs => Nat.le_trans (Hrs.out s hs) (by omega)) (fun s hs => Nat.le_trans (Hrs.out s hs) (by omega))).mono ?_; rw [decide_eq_true rfl]; rintro e w13 ⟨rfl, m13⟩; refine Hid.out ?_)
               have m14 := Mod.keep (T := bookA kb B cB L * (R1 * (diskA p5 D9 * (refA q5 M9 * (jourA j9 p5 name en9 * (rjourA k9 q5 name en9 * (rowA 5 1 (.slice At (nb + 1) ct) (nb + 1) (u8s (bs ++ [77])) * (Go.Sl.blk gx (.cells #[.int .u8 (kd : Int), .slice bA nb bc, .int .u16 (keep : Int), .bool nms] 77 (0, 0)) * S)))))))) m13
               clear m12 m13 hr1 hr2
               refine Lib.hid ?_
               have flag := True.intro
               go_wp2_with first
                 | (go_at_call 44; clear flag; refine (bRecords_spec kb B cB L A9 n9 n9 rs R1 Hr1.out Hrl.out Hrs.out _ w0 _ (by omega) m14).mono ?_; rintro e w15 ⟨rfl, B8, c8, L8, hL8, hV8, m15⟩; refine Hid.out ?_)
               have H8 : Hid (JBoth p5 q5 j9 k9 name en9 D9 M9 (rowA 5 1 (.slice At (nb + 1) ct) (nb + 1) (u8s (bs ++ [77])) * (Go.Sl.blk gx (.cells #[.int .u8 (kd : Int), .slice bA nb bc, .int .u16 (keep : Int), .bool nms] 77 (0, 0)) * (bookA kb B8 c8 (L ++ L8) * S))) w0 w15) := HJ.out.turn (Mod.keep m15)
               have HV8 := Lib.hid hV8
               have m16 := H8.out.rest
               clear m14 m15 hV8
               refine Lib.hid ?_
               go_wp2_with fail
               go_meet
               exact ⟨p5, q5, j9, k9, _, _, _, B8, c8, L ++ L8, 0, rfl, rfl, rfl, rfl, rfl, rfl, by rw [List.length_append]; omega, vs_append HV.out (fun g hg => Nat.le_trans (HV8.out g hg) (by omega)), H8.out⟩
             · as_aux_lemma =>
               have HO := Lib.hid (jopen_pair hs9 Hnk.out H6.out.only _ H6.out.both)
               have flag := True.intro
               go_wp2_with first
                 | (go_at_call 37; clear flag; refine HO.out.mono ?_; rintro e w11 ⟨j9, A9, n9, rfl, m11, hn9, _, hc9⟩; have Hc9 := Lib.hid hc9; clear hc9)
               have flag := True.intro
               go_wp2_with first
                 | (go_at_call 38; clear flag; refine Hc9.out.mono ?_; rintro e w12 ⟨k9, B9, c9, D9, M9, en9, rs, R1, R2, rfl, hrl, hrs, hr1, hr2, hJ⟩; have HJ := Lib.hid hJ; have m12 := hJ.both.mod; have Hr1 := Lib.hid hr1; have Hrs := Lib.hid hrs; have Hrl := Lib.hid hrl; clear hJ m11 hrs hrl)
               have flag := True.intro
               go_wp2_with first
                 | (go_at_call 43; clear flag; refine (sameRecords_spec A9 B9 n9 n9 n9 c9 rs rs _ w0 _ m12 ((by rw [← Hrl.out]; exact hr1.reads : ReadsRecs R1 A9 n9 rs).lift inferInstance) (hr2.lift inferInstance) (by omega) (by omega) (fun s hs => Nat.le_trans (Hrs.out s hs) (by omega)) (fun s hs => Nat.le_trans (Hrs.out s hs) (by omega))).mono ?_; rw [decide_eq_true rfl]; rintro e w13 ⟨rfl, m13⟩; refine Hid.out ?_)
               have m14 := Mod.keep (T := bookA kb B cB L * (R1 * (diskA p D9 * (refA q M9 * (jourA j9 p name en9 * (rjourA k9 q name en9 * (rowA 5 1 (.slice At (nb + 1) ct) (nb + 1) (u8s (bs ++ [77])) * (Go.Sl.blk gx (.cells #[.int .u8 (kd : Int), .slice bA nb bc, .int .u16 (keep : Int), .bool nms] 77 (0, 0)) * S)))))))) m13
               clear m12 m13 hr1 hr2
               refine Lib.hid ?_
               have flag := True.intro
               go_wp2_with first
                 | (go_at_call 44; clear flag; refine (bRecords_spec kb B cB L A9 n9 n9 rs R1 Hr1.out Hrl.out Hrs.out _ w0 _ (by omega) m14).mono ?_; rintro e w15 ⟨rfl, B8, c8, L8, hL8, hV8, m15⟩; refine Hid.out ?_)
               have H8 : Hid (JBoth p q j9 k9 name en9 D9 M9 (rowA 5 1 (.slice At (nb + 1) ct) (nb + 1) (u8s (bs ++ [77])) * (Go.Sl.blk gx (.cells #[.int .u8 (kd : Int), .slice bA nb bc, .int .u16 (keep : Int), .bool nms] 77 (0, 0)) * (bookA kb B8 c8 (L ++ L8) * S))) w0 w15) := HJ.out.turn (Mod.keep m15)
               have HV8 := Lib.hid hV8
               have m16 := H8.out.rest
               clear m14 m15 hV8
               refine Lib.hid ?_
               go_wp2_with fail
               go_meet
               exact ⟨p, q, j9, k9, _, _, _, B8, c8, L ++ L8, 0, rfl, rfl, rfl, rfl, rfl, rfl, by rw [List.length_append]; omega, vs_append HV.out (fun g hg => Nat.le_trans (HV8.out g hg) (by omega)), H8.out⟩
             · as_aux_lemma =>
               have rT : Reads (rowA 5 1 (.slice At (nb + 1) ct) (nb + 1) (u8s (bs ++ [77]))) At nb (u8s bs) := by
                 have h1 := Reads.pre (inferInstance : Reads (rowA 5 1 (.slice At (nb + 1) ct) (nb + 1) (u8s (bs ++ [77]))) At (nb + 1) (u8s (bs ++ [77]))) nb (by omega)
                 have e1 : (u8s (bs ++ [77])).take nb = u8s bs := by rw [u8s_append]; exact List.take_left' (by rw [length_u8s]; exact Hnb.out)
                 rwa [e1] at h1
               have RT := Lib.hid rT
               clear rT
               have flag := True.intro
               go_wp2_with first
                 | (go_at_call 17; clear flag; refine ((jappend_pair hs9 Hnk.out At bA nb ct bc bs Hnb.out (reads_lift inferInstance RT.out) (reads_lift inferInstance HB.out) (by omega)) _ H6.out).mono ?_; rintro e w7 ⟨z, rfl, m8, hc7⟩; have Hc7 := Lib.hid hc7; clear hc7)
               have flag := True.intro
               go_wp2_with first
                 | (go_at_call 18; clear flag; refine Hc7.out.mono ?_; rintro e w8 ⟨rfl, D8, M8, en8, h8⟩; have H8 := Lib.hid h8; have m8 := h8.rest; clear h8)
               go_wp2_with fail
               go_meet
               exact ⟨p, q, j, k, _, _, _, B, cB, L, z, rfl, rfl, rfl, rfl, rfl, rfl, by omega, HV.out, H8.out⟩
             · as_aux_lemma =>
               by_cases hk4 : keep % 4 = 0
               · have hk4i : (keep : Int) % 4 = 0 := by omega
                 have flag := True.intro
                 go_wp2_with first
                   | (go_at_call 13; clear flag; refine ((jremove_pair hs9 Hnk.out) _ H6.out).mono ?_; rintro e w7 ⟨z, rfl, m8, hc7⟩; have Hc7 := Lib.hid hc7; clear hc7)
                 have flag := True.intro
                 go_wp2_with first
                   | (go_at_call 14; clear flag; refine Hc7.out.mono ?_; rintro e w8 ⟨rfl, D8, M8, en8, h8⟩; have H8 := Lib.hid h8; have m8 := h8.rest; clear h8)
                 go_wp2_with fail
                 go_meet
                 exact ⟨p, q, j, k, _, _, _, B, cB, L, z, rfl, rfl, rfl, rfl, rfl, rfl, by omega, HV.out, H8.out⟩
               · have hk4i : ((keep : Int) % 4 == 0) = false := beq_eq_false_iff_ne.2 (by omega)
                 have hk4j : ¬ (keep : Int) % 4 = 0 := by omega
                 go_wp2_with fail
                 go_meet
                 exact ⟨p, q, j, k, _, _, _, B, cB, L, 0, rfl, rfl, rfl, rfl, rfl, rfl, by omega, HV.out, H6.out⟩
            case rest =>
              obtain ⟨p1, q1, j1, k1, en1, D8, M8, B9, c9, L9, z, rfl, rfl, rfl, rfl, rfl, rfl, hL9, HV9, h8⟩ := hcut
              have H8 := Lib.hid h8
              have m8 := h8.both.mod
              clear h8 m7 H6
              as_aux_lemma =>
              have flag := True.intro
              go_wp2_with first
                | (go_at_call 34; clear flag; refine (leftBytes_spec At bA nb ct bc bs _ w0 _ m8 inferInstance (reads_lift inferInstance HB.out) hct (by omega)).mono ?_; rintro e w13 ⟨rfl, m13⟩; have h13 := H8.out.turn m13; have H13 := Lib.hid h13; clear h13)
              have flag := True.intro
              go_wp2_with first
                | (go_at_call 29; clear flag; refine (same5_spec H13.out.both).mono ?_; rintro e w14 ⟨rfl, h14⟩; have m14a := h14.mod; have Hal := Lib.hid h14.alike; clear h14)
              have m14 : Mod w14 w0 (bookA kb B9 c9 L9 * (rowA 5 1 (.slice At nb ct) nb (u8s bs) * (Go.Sl.blk gx (.cells #[.int .u8 (kd : Int), .slice bA nb bc, .int .u16 (keep : Int), .bool nms] 77 (0, 0)) * (diskA p1 D8 * (refA q1 M8 * (jourA j1 p1 name en1 * (rjourA k1 q1 name en1 * S))))))) := by
                have h1 := Mod.to (m := m14a) (S' := rowA 5 1 (.slice At (nb + 1) ct) (nb + 1) (u8s (bs ++ [77])) * (Go.Sl.blk gx (.cells #[.int .u8 (kd : Int), .slice bA nb bc, .int .u16 (keep : Int), .bool nms] 77 (0, 0)) * (diskA p1 D8 * (refA q1 M8 * (jourA j1 p1 name en1 * (rjourA k1 q1 name en1 * (bookA kb B9 c9 L9 * S))))))) (by ac_rfl)
                rw [u8s_append] at h1
                exact Mod.to (m := row_less (by rw [length_u8s]; exact Hnb.out) h1) (by ac_rfl)
              clear m8 m13 m14a
              have flag := True.intro
              go_wp2_with first
                | (go_at_call 22; clear flag; refine (bytes_row kb B9 c9 L9 At nb ct (u8s bs) (by rw [length_u8s]; exact Hnb.out) _ w0 _ (by omega) m14).mono ?_; rintro e w15 ⟨rfl, B15, c15, m15⟩)
              go_roundg (n - (i + 1))
              case measure => omega
              case rel => exact ⟨i + 1, p1, q1, j1, k1, en1, D8, M8, B15, c15, L9 ++ [⟨At, ct, u8s bs⟩], hlt, rfl, rfl, rfl, rfl, rfl, by go_num, by rw [List.length_append, List.length_singleton]; omega, vs_append HV9.out (fun g hg => by rw [List.mem_singleton.1 hg]; show (u8s bs).length ≤ _; rw [length_u8s, Hnb.out]; omega), H13.out.turn (Mod.keep m15)⟩
          · have hin2 : i = n := by omega
            have hii : ¬ (i : Int) < (n : Int) := by omega
            have m5 := Mod.keep (T := bookA kb B cB L * S) hB.both.mod
            clear hB hb1
            have flag := True.intro
            go_wp2_with first
              | (go_at_call 35; clear flag; refine (apart_spec kb B cB L _ w0 S (by omega) HV.out m5).mono ?_; rintro e w6 ⟨rfl, m6⟩)
            go_ret
            exact ⟨rfl, m6⟩
theorem journalsPlay_walk (size : Int) (name : ByteArray) (A : Option Addr) (n c : Nat) (w w0 : World) (S : Asn) [m : Mod w w0 S] (hk : (Lit.int .u16 size).wf = true) {q : Prop} (_ : q) (hs : name.size ≤ 4611686018427387903 ∧ ∃ l, ReadsActs6 S A n l ∧ n ≤ 9223372036854775807) :
    Calls Tryz.prog 4 #[.int .u16 size, .string name, .slice A n c] w fun e w' => e = .returned (.bool true) ∧ Mod w' w0 S := by
  obtain ⟨s, rfl, hs1⟩ := wf_u16 hk
  obtain ⟨h1, l, h2, h3⟩ := hs
  exact journalsPlay_run s hs1 name h1 A n c l w w0 S m h2 h3
end Go.Proofs.YtcakdaadbpimaaaGreatDoor
