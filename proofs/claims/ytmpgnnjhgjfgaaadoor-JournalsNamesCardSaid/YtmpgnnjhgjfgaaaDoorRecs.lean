/- Rows of records ([][]byte): what such a slice reads as; the laws' helpers SameBytes, SameRecords, RecordsSize: contracts over the small separation logic; the conditions are in each theorem. -/
import Derived.Test.YtmpgnnjhgjfgaaaDoorActs
namespace Go.Proofs.YtmpgnnjhgjfgaaaDoor
open Go.RowKit Go.Sl
attribute [local go_sem] cell_of frozen_of zero_names
/-- A slice of records that is read. -/
structure ReadsRecs (S : Asn) (A : Option Addr) (n : Nat) (rs : List (List UInt8)) : Prop where
  len : rs.length = n
  each : ∃ hs : List (Option Addr × Nat), hs.length = n ∧ Reads S A n ((hs.zip rs).map fun q => Value.slice q.1.1 q.2.length q.1.2) ∧ ∀ i (h1 : i < hs.length) (h2 : i < rs.length), Reads S hs[i].1 rs[i].length (u8s rs[i]) ∧ rs[i].length ≤ hs[i].2
theorem ReadsRecs.lift {S' S : Asn} {A : Option Addr} {n : Nat} {rs : List (List UInt8)} (s : Sub S' S) (r : ReadsRecs S A n rs) : ReadsRecs S' A n rs := by
  obtain ⟨h1, hs, h2, h3, h4⟩ := r
  exact ⟨h1, hs, h2, reads_lift s h3, fun i a b => ⟨reads_lift s (h4 i a b).1, (h4 i a b).2⟩⟩
theorem ReadsRecs.pre {S : Asn} {A : Option Addr} {n : Nat} {rs : List (List UInt8)} (r : ReadsRecs S A n rs) (k : Nat) (h : k ≤ n) : ReadsRecs S A k (rs.take k) := by
  obtain ⟨h1, hs, h2, h3, h4⟩ := r
  refine ⟨by rw [List.length_take]; omega, hs.take k, by rw [List.length_take]; omega, ?_, fun i a b => ?_⟩
  · have := h3.pre k h
    rw [← List.map_take] at this
    have e : (hs.zip rs).take k = (hs.take k).zip (rs.take k) := by simp only [List.zip, List.take_zipWith]
    rw [e] at this
    exact this
  · simp only [List.length_take] at a b
    rw [List.getElem_take, List.getElem_take]
    exact h4 i (by omega) (by omega)
theorem reads_rec {w w0 : World} {S : Asn} {A : Option Addr} {n : Nat} {rs : List (List UInt8)} (m : Mod w w0 S) (r : ReadsRecs S A n rs) {k : Nat} (hk : k < n) :
    ∃ b o, A = some ⟨b, o, none⟩ ∧ ∃ (h : k < rs.length) (B : Option Addr) (c : Nat), w.cell? ⟨b, o + k, none⟩ = some (.slice B rs[k].length c) ∧ Reads S B rs[k].length (u8s rs[k]) ∧ rs[k].length ≤ c := by
  obtain ⟨h1, hs, h2, h3, h4⟩ := r
  obtain ⟨ad, ha, hsp, hc⟩ := reads_cell m h3 (by omega)
  obtain ⟨b, o, sp⟩ := ad
  simp only at hsp
  subst hsp
  have hkr : k < rs.length := by omega
  have hkh : k < hs.length := by omega
  refine ⟨b, o, ha, hkr, hs[k].1, hs[k].2, hc k _ ?_, (h4 k hkh hkr).1, (h4 k hkh hkr).2⟩
  rw [List.getElem?_map, List.getElem?_eq_getElem (by simp; omega)]
  simp
theorem reads_rec_all {w w0 : World} {S : Asn} {A : Option Addr} {n : Nat} {rs : List (List UInt8)} (m : Mod w w0 S) (r : ReadsRecs S A n rs) {k : Nat} (hk : k < n) :
    ∃ b o, A = some ⟨b, o, none⟩ ∧ ∃ (h : k < rs.length) (B : Option Addr) (c : Nat), (∀ s : Held w0 S, s.world.cell? ⟨b, o + k, none⟩ = some (.slice B rs[k].length c)) ∧ Reads S B rs[k].length (u8s rs[k]) ∧ rs[k].length ≤ c := by
  obtain ⟨h1, hs, h2, h3, h4⟩ := r
  obtain ⟨ad, ha, hsp, _⟩ := reads_cell m h3 (by omega)
  obtain ⟨b, o, sp⟩ := ad
  simp only at hsp
  subst hsp
  have hkr : k < rs.length := by omega
  have hkh : k < hs.length := by omega
  refine ⟨b, o, ha, hkr, hs[k].1, hs[k].2, fun s => ?_, (h4 k hkh hkr).1, (h4 k hkh hkr).2⟩
  obtain ⟨ad2, ha2, _, hc⟩ := reads_cell s.mod h3 (by omega)
  rw [ha] at ha2
  injection ha2 with ha2
  subst ha2
  refine hc k _ ?_
  rw [List.getElem?_map, List.getElem?_eq_getElem (by simp; omega)]
  simp
set_option maxHeartbeats 2000000 in
theorem sameBytes_spec (B C : Option Addr) (n k cB cC : Nat) (xs ys : List UInt8) (w w0 : World) (S : Asn) (m : Mod w w0 S) (r1 : Reads S B n (u8s xs)) (r2 : Reads S C k (u8s ys)) (hn : n ≤ 4611686018427387904) (hk : k ≤ 4611686018427387904) :
    Calls Tryd.prog 34 #[.slice B n cB, .slice C k cC] w fun e w' => e = .returned (.bool (decide (xs = ys))) ∧ Mod w' w0 S := by
  have l1 : xs.length = n := by have := reads_len m r1; rwa [length_u8s] at this
  have l2 : ys.length = k := by have := reads_len m r2; rwa [length_u8s] at this
  by_cases hnk : n = k
  · subst hnk
    go_enter Tryd.func34, Tryd.ntmps34
    go_wp2
    go_loopg [5] n (fun gk i wr => ∃ k : Nat, k ≤ n ∧ gk = n - k ∧ i = .int .i64 (k : Int) ∧ Hid (xs.take k = ys.take k) ∧ Mod wr w0 S)
    case atStart => exact ⟨0, Nat.zero_le _, rfl, rfl, rfl, m⟩
    case round =>
      obtain ⟨k, hkn, hgk, rfl, Hs, m2⟩ := hrel
      by_cases hlt : k < n
      · obtain ⟨ad1, hB, hsp1, hc1⟩ := reads_cell m2 r1 (by omega)
        obtain ⟨ad2, hC, hsp2, hc2⟩ := reads_cell m2 r2 (by omega)
        obtain ⟨b1, o1, sp1⟩ := ad1
        obtain ⟨b2, o2, sp2⟩ := ad2
        simp only at hsp1 hsp2
        subst hsp1 hsp2 hB hC
        have hk1 : k < xs.length := by omega
        have hk2 : k < ys.length := by omega
        have hx := hc1 k (.int .u8 ((xs[k].toNat : Nat) : Int)) (by simp [u8s, hk1])
        have hy := hc2 k (.int .u8 ((ys[k].toNat : Nat) : Int)) (by simp [u8s, hk2])
        have hki : (k : Int) < (n : Int) := by omega
        have HT : Hid (xs[k] = ys[k] → xs.take (k + 1) = ys.take (k + 1)) := fun e => by
          rw [List.take_succ_eq_append_getElem hk1, List.take_succ_eq_append_getElem hk2, Hs.out, e]
        have HN : Hid (xs[k] ≠ ys[k] → xs ≠ ys) := fun e h => by subst h; exact e rfl
        clear hc1 hc2
        generalize xs[k] = x at *
        generalize ys[k] = y at *
        by_cases hxy : x = y
        · subst hxy
          go_wp2
          go_quiet (fail)
          go_wp2
          go_roundg (n - (k + 1))
          case measure => omega
          case rel => exact ⟨k + 1, by omega, rfl, by go_num, HT.out trivial, Mod.drewN (m := m2) nq⟩
        · have hne : x.toNat ≠ y.toNat := fun e => hxy (UInt8.toNat_inj.1 e)
          have hnei : ¬ ((x.toNat : Int) = (y.toNat : Int)) := by omega
          have Hne := Lib.hid (HN.out hxy)
          clear HT HN hxy
          go_wp2
          go_quiet (fail)
          go_wp2
          go_ret
          exact ⟨by rw [decide_eq_false Hne.out]; rfl, Mod.drewN (m := m2) nq⟩
      · have Heq : Hid (xs = ys) := by
          have h := Hs.out
          rw [List.take_of_length_le (by omega), List.take_of_length_le (by omega)] at h
          exact h
        clear Hs
        go_wp2
        go_ret
        exact ⟨by rw [decide_eq_true Heq.out]; rfl, m2⟩
  · go_enter Tryd.func34, Tryd.ntmps34
    go_wp2
    go_ret
    have : xs ≠ ys := fun e => hnk (by rw [← l1, ← l2, e])
    exact ⟨by rw [decide_eq_false this]; rfl, m⟩
def sizesR : List (List UInt8) → Nat
  | [] => 0
  | s :: l => s.length + sizesR l
/-- What the laws' RecordsSize tells: all of it, as long as it goes through. -/
def recsSize : Nat → List (List UInt8) → Nat
  | n, [] => n
  | n, s :: l => if n ≤ 1048576 then recsSize (n + s.length) l else n
theorem recsSize_gt : ∀ (l : List (List UInt8)) (n : Nat), n ≤ recsSize n l ∧ (recsSize n l ≤ 1048576 → recsSize n l = n + sizesR l)
  | [], n => ⟨Nat.le_refl _, fun _ => rfl⟩
  | s :: l, n => by
    unfold recsSize
    obtain ⟨h1, h2⟩ := recsSize_gt l (n + s.length)
    split
    · exact ⟨by omega, fun h => by rw [h2 h]; simp only [sizesR]; omega⟩
    · exact ⟨Nat.le_refl _, fun h => by omega⟩
theorem bytesSize_spec (B : Option Addr) (n c : Nat) (w w0 : World) (S : Asn) (m : Mod w w0 S) : Calls Tryd.prog 31 #[.slice B n c] w fun e w' => e = .returned (.int .i64 (n : Int)) ∧ Mod w' w0 S := by
  go_enter Tryd.func31, Tryd.ntmps31
  go_wp2
  go_ret
  exact ⟨rfl, m⟩
set_option pp.deepTerms true in
set_option maxHeartbeats 2000000 in
theorem recordsSize_spec (B : Option Addr) (n c : Nat) (rs : List (List UInt8)) (w w0 : World) (S : Asn) (m : Mod w w0 S) (r : ReadsRecs S B n rs) (hn : n ≤ 4611686018427387904) (hs : ∀ s ∈ rs, s.length ≤ 4611686018427387904) :
    Calls Tryd.prog 11 #[.slice B n c] w fun e w' => e = .returned (.int .i64 (recsSize n rs : Int)) ∧ Mod w' w0 S := by
  have l1 := r.len
  go_enter Tryd.func11, Tryd.ntmps11
  go_wp2
  go_loopg [3, 4] n (fun gk t i wr => ∃ k a : Nat, k ≤ n ∧ gk = n - k ∧ i = .int .i64 (k : Int) ∧ t = .int .i64 (a : Int) ∧ a ≤ 9223372036854775807 ∧ Hid (recsSize a (rs.drop k) = recsSize n rs) ∧ Mod wr w0 S)
  case atStart => exact ⟨0, n, Nat.zero_le _, rfl, rfl, rfl, by omega, rfl, m⟩
  case round =>
    obtain ⟨k, a, hkn, hgk, rfl, rfl, ha, Ht, m2⟩ := hrel
    by_cases hlt : k < n
    · by_cases hle : a ≤ 1048576
      · obtain ⟨b1, o1, rfl, hkl, B2, cc, hx, _, _⟩ := reads_rec m2 r hlt
        have hki : (k : Int) < (n : Int) := by omega
        have hsk : rs[k].length ≤ 4611686018427387904 := hs _ (List.getElem_mem hkl)
        have Ht2 : Hid (recsSize (a + rs[k].length) (rs.drop (k + 1)) = recsSize n rs) := by
          show _ = _
          rw [← Ht.out, List.drop_eq_getElem_cons hkl]
          conv => rhs; unfold recsSize
          rw [if_pos hle]
        clear Ht
        generalize rs[k] = x at *
        go_wp2_with (go_at_call 31; refine (bytesSize_spec B2 x.length cc _ w0 S m2).mono ?_; rintro e w3 ⟨rfl, m3⟩)
        go_roundg (n - (k + 1))
        case measure => omega
        case rel => exact ⟨k + 1, a + x.length, by omega, rfl, by go_num, by go_num, by omega, Ht2.out, m3⟩
      · have Hr : Hid (a = recsSize n rs) := by
          show _ = _
          rw [← Ht.out, List.drop_eq_getElem_cons (show k < rs.length by omega)]
          conv => rhs; unfold recsSize
          rw [if_neg hle]
        clear Ht
        go_wp2
        go_ret
        exact ⟨by rw [← Hr.out]; rfl, m2⟩
    · have Hr : Hid (a = recsSize n rs) := by
        show _ = _
        rw [← Ht.out, List.drop_eq_nil_of_le (by omega)]
        rfl
      clear Ht
      go_wp2
      go_ret
      exact ⟨by rw [← Hr.out]; rfl, m2⟩
set_option pp.deepTerms true in
set_option maxHeartbeats 2000000 in
theorem sameRecords_spec (B C : Option Addr) (n k cB cC : Nat) (xs ys : List (List UInt8)) (w w0 : World) (S : Asn) (m : Mod w w0 S) (r1 : ReadsRecs S B n xs) (r2 : ReadsRecs S C k ys) (hn : n ≤ 4611686018427387904) (hk : k ≤ 4611686018427387904) (h1 : ∀ s ∈ xs, s.length ≤ 4611686018427387904) (h2 : ∀ s ∈ ys, s.length ≤ 4611686018427387904) :
    Calls Tryd.prog 14 #[.slice B n cB, .slice C k cC] w fun e w' => e = .returned (.bool (decide (xs = ys))) ∧ Mod w' w0 S := by
  have l1 := r1.len
  have l2 := r2.len
  by_cases hnk : n = k
  · subst hnk
    go_enter Tryd.func14, Tryd.ntmps14
    go_wp2
    go_loopg [5] n (fun gk i wr => ∃ k : Nat, k ≤ n ∧ gk = n - k ∧ i = .int .i64 (k : Int) ∧ Hid (xs.take k = ys.take k) ∧ Mod wr w0 S)
    case atStart => exact ⟨0, Nat.zero_le _, rfl, rfl, rfl, m⟩
    case round =>
      obtain ⟨k, hkn, hgk, rfl, Hs, m2⟩ := hrel
      by_cases hlt : k < n
      · obtain ⟨b1, o1, hB, hk1, B1, c1, hx, rx, _⟩ := reads_rec_all m2 r1 hlt
        obtain ⟨b2, o2, hC, hk2, B2, c2, hy, ry, _⟩ := reads_rec_all m2 r2 hlt
        subst hB hC
        have hki : (k : Int) < (n : Int) := by omega
        have hx1 := h1 xs[k] (List.getElem_mem hk1)
        have hy1 := h2 ys[k] (List.getElem_mem hk2)
        have HT : Hid (xs[k] = ys[k] → xs.take (k + 1) = ys.take (k + 1)) := fun e => by
          rw [List.take_succ_eq_append_getElem hk1, List.take_succ_eq_append_getElem hk2, Hs.out, e]
        have HN : Hid (xs[k] ≠ ys[k] → xs ≠ ys) := fun e h => by subst h; exact e rfl
        generalize xs[k] = x at *
        generalize ys[k] = y at *
        by_cases hxy : x = y
        · have Hxy := Lib.hid hxy
          clear hxy
          have HC : Hid (∀ u, Mod u w0 S → Calls Tryd.prog 34 #[.slice B1 x.length c1, .slice B2 y.length c2] u fun e w' => e = .returned (.bool true) ∧ Mod w' w0 S) := fun u mu => by
            have h := sameBytes_spec B1 B2 x.length y.length c1 c2 x y u w0 S mu rx ry hx1 hy1
            rw [decide_eq_true Hxy.out] at h
            exact h
          have := Held.some m2
          go_wp2_with fail
          refine wp_region_mod m2 (by kernel_rfl) (by kernel_rfl) ?_
          repeat (go_big_quiet_step ((go_at_call 34; refine quiet_call (HC.out _ ?_); exact inferInstance)))
          refine wpQuiet_nil ?_
          rintro w3 ⟨s, rfl⟩
          have m3 := s.mod
          go_wp2_with fail
          go_roundg (n - (k + 1))
          case measure => omega
          case rel => exact ⟨k + 1, by omega, rfl, by go_num, HT.out Hxy.out, m3⟩
        · have Hne := Lib.hid (HN.out hxy)
          have Hxy := Lib.hid hxy
          clear hxy HT HN
          have HC : Hid (∀ u, Mod u w0 S → Calls Tryd.prog 34 #[.slice B1 x.length c1, .slice B2 y.length c2] u fun e w' => e = .returned (.bool false) ∧ Mod w' w0 S) := fun u mu => by
            have h := sameBytes_spec B1 B2 x.length y.length c1 c2 x y u w0 S mu rx ry hx1 hy1
            rw [decide_eq_false Hxy.out] at h
            exact h
          have := Held.some m2
          go_wp2_with fail
          refine wp_region_mod m2 (by kernel_rfl) (by kernel_rfl) ?_
          repeat (go_big_quiet_step ((go_at_call 34; refine quiet_call (HC.out _ ?_); exact inferInstance)))
          refine wpQuiet_nil ?_
          rintro w3 ⟨s, rfl⟩
          have m3 := s.mod
          go_wp2_with fail
          go_ret
          exact ⟨by rw [decide_eq_false Hne.out]; rfl, m3⟩
      · have Heq : Hid (xs = ys) := by
          have h := Hs.out
          rw [List.take_of_length_le (by omega), List.take_of_length_le (by omega)] at h
          exact h
        clear Hs
        go_wp2
        go_ret
        exact ⟨by rw [decide_eq_true Heq.out]; rfl, m2⟩
  · go_enter Tryd.func14, Tryd.ntmps14
    go_wp2
    go_ret
    have : xs ≠ ys := fun e => hnk (by rw [← l1, ← l2, e])
    exact ⟨by rw [decide_eq_false this]; rfl, m⟩
end Go.Proofs.YtmpgnnjhgjfgaaaDoor
