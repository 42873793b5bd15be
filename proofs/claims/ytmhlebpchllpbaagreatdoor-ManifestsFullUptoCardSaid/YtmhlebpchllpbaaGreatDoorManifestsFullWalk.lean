/- The walk of ManifestsFull: it returns true and changes nothing that was there; the conditions are in the theorem. -/
import Derived.Test.YtmhlebpchllpbaaGreatDoorMfFG
import Derived.Test.YtmhlebpchllpbaaGreatDoorEdBG
import Derived.Deep.LoopGhost
namespace Go.Proofs.YtmhlebpchllpbaaGreatDoor
open Go.RowKit Go.Sl
attribute [local go_sem] cell_of cellAt_of frozen_of zero_names
theorem edit_at {S : Asn} {b o n : Nat} {l : List (EditL × EditV)} (r : ReadsEdits S (some ⟨b, o, none⟩) n l) {k : Nat} (hk : k < l.length) : CellAt S b (o + k * 5) (.slice l[k].1.aA l[k].2.added.length l[k].1.aC) ∧ CellAt S b (o + k * 5 + 1) (.slice l[k].1.rA l[k].2.removed.length l[k].1.rC) ∧ CellAt S b (o + k * 5 + 2) (.int .u32 (l[k].2.journal : Int)) ∧ CellAt S b (o + k * 5 + 3) (.int .u32 (l[k].2.next : Int)) ∧ CellAt S b (o + k * 5 + 4) (.int .u64 (l[k].2.seq : Int)) := by
  have hp : 0 < n * 5 := by have := r.len; omega
  have f : ∀ j v, (editCells l[k].1 l[k].2)[j]? = some v → CellAt S b (o + k * 5 + j) v := fun j v hv => by
    rw [Nat.add_assoc]
    exact reads_at_cell r.cells hp _ (editE_cell l k j v hk hv)
  exact ⟨f 0 _ rfl, f 1 _ rfl, f 2 _ rfl, f 3 _ rfl, f 4 _ rfl⟩
theorem edits_some {w w0 : World} {S : Asn} {A : Option Addr} {n : Nat} {l : List (EditL × EditV)} (m : Mod w w0 S) (r : ReadsEdits S A n l) {k : Nat} (hk : k < n) : ∃ b o, A = some ⟨b, o, none⟩ := by
  obtain ⟨ad, ha, hs, _⟩ := reads_cell m r.cells (by omega)
  obtain ⟨b, o, sp⟩ := ad
  simp only at hs
  subst hs
  exact ⟨b, o, ha⟩
/-- How many files the first edits add. -/
def addedSum (l : List (EditL × EditV)) (i : Nat) : Nat := ((l.take i).map fun y => y.2.added.length).sum
theorem addedSum_next {l : List (EditL × EditV)} {i : Nat} (h : i < l.length) : addedSum l (i + 1) = addedSum l i + l[i].2.added.length := by
  unfold addedSum
  rw [List.take_add_one, List.getElem?_eq_getElem h, List.map_append, List.sum_append]
  simp only [Option.toList_some, List.map_cons, List.map_nil, List.sum_cons, List.sum_nil, Nat.add_zero]
theorem addedSum_le {l : List (EditL × EditV)} (i : Nat) : addedSum l i ≤ (l.map fun y => y.2.added.length).sum := by
  unfold addedSum
  conv => rhs; rw [← List.take_append_drop i l, List.map_append, List.sum_append]
  omega
theorem doK_len {k k' : MKnow} {x : EditV} (h : doK k x = some k') : k'.files.length ≤ k.files.length + x.added.length := by
  unfold doK at h
  obtain ⟨l, hl, rfl⟩ := Option.map_eq_some_iff.1 h
  exact doE_len hl
set_option maxRecDepth 8000 in
set_option maxHeartbeats 16000000 in
theorem manifestsFull_walk (a0 : Int) (a1 : Option Addr) (len1 cap1 : Nat) (w w0 : World) (F : Asn) (m : Mod w w0 F) (h0 : 0 ≤ a0 ∧ a0 < 65536) (l : List (EditL × EditV)) (r : ReadsEdits F a1 len1 l) (hn : len1 ≤ 1048576) (tab : TabIn F) :
    Calls Tryz.prog 3 #[.int .u16 a0, .slice a1 len1 cap1] w fun e w' => e = .returned (.bool true) ∧ Mod w' w0 F := by
  have T := Lib.hid tab
  have R := Lib.hid r
  have HB := Lib.hid r.sum
  clear tab r
  go_enter Tryz.func3, Tryz.ntmps3
  by_cases hbig : 100 < len1 ∨ a0 = 0
  · rcases hbig with hbig | rfl
    · have hb : (len1 : Int) > 100 := by omega
      go_wp2_with (go_at_call 5; refine (lives14_spec _ w0 F m T.out).mono ?_; rintro e w1 ⟨rfl, m1⟩)
      go_ret
      exact ⟨rfl, m1⟩
    · go_wp2_with (go_at_call 5; refine (lives14_spec _ w0 F m T.out).mono ?_; rintro e w1 ⟨rfl, m1⟩)
      all_goals go_ret
      all_goals exact ⟨rfl, m1⟩
  · obtain ⟨hb, h00⟩ := not_or.1 hbig
    clear hbig
    obtain ⟨n, rfl⟩ : ∃ n : Nat, a0 = (n : Int) := ⟨a0.toNat, by omega⟩
    have hb : ¬ (len1 : Int) > 100 := by omega
    have h00' : (((n : Int) == 0) = false) := beq_eq_false_iff_ne.2 h00
    go_wp2_with (go_at_call 6; refine (new_ok n _ w0 _ m (by omega) (by omega)).mono ?_; rintro e w1 ⟨p, rfl, m1⟩)
    refine (mOpen_new p n w1 w0 F m1 T.out).mono ?_
    rintro e w2 (⟨mp, jj, D1, rfl, h1, hs1, m2⟩ | ⟨hlt, rfl, D1, m2⟩)
    · have H1 := Lib.hid h1
      clear m1 h1
      go_wp2_with fail
      go_loopg [9] len1 (fun gk iv wr => ∃ (i num : Nat) (xs : List EditV) (k : MKnow) (jj : Nat) (A : Option Addr) (c : Nat) (D : DiskSt) (G : Asn), i ≤ len1 ∧ gk = len1 - i ∧ iv = .int .i64 (i : Int) ∧ MInv D num xs k ∧ num ≤ 1 + 2 * i ∧ k.files.length ≤ addedSum l i ∧ k.files.length ≤ c ∧ Sub G F ∧ Mod wr w0 (manS mp p jj num xs.length A c k D (journal [] (recsB xs)).length G))
      case atStart => exact ⟨0, 1, [], noKnow, jj, none, 0, D1, F, Nat.zero_le _, rfl, rfl, H1.out, by omega, Nat.zero_le _, Nat.zero_le _, inferInstance, m2⟩
      case round =>
        obtain ⟨i, num, xs, k, jj, A, c, D, G, hi, hgk, rfl, hM, hnum, hlen, hcap, hG, mr⟩ := hrel
        have HM := Lib.hid hM
        clear hM
        by_cases hlt : i < len1
        · have hii : (i : Int) < (len1 : Int) := by omega
          have hil : i < l.length := by rw [R.out.len]; exact hlt
          have hx := addedSum_next hil
          have hx2 := addedSum_le (l := l) (i + 1)
          have hx3 := HB.out
          have re : ReadsEdit F l[i].1 l[i].2 := R.out.each _ (List.getElem_mem hil)
          obtain ⟨b, o, rfl⟩ := edits_some m R.out hlt
          obtain ⟨q0, q1, q2, q3, q4⟩ := edit_at (R.out.lift hG) hil
          obtain ⟨L, x, hLx⟩ : ∃ L x, l[i] = (L, x) := ⟨_, _, rfl⟩
          rw [hLx] at re q0 q1 q2 q3 q4 hx
          simp only at re q0 q1 q2 q3 q4 hx
          clear hLx hil
          have RE := Lib.hid re
          have HX : Hid (addedSum l (i + 1) = addedSum l i + x.added.length ∧ addedSum l (i + 1) ≤ 1048576) := Lib.hid ⟨hx, by omega⟩
          clear re hx hx2 hx3
          have hi0 : (0 : Int) ≤ (i : Int) := by omega
          go_wp2_with fail
          refine (files_at mp p jj num _ A c k D _ _ w0 _ mr (by have := HX.out; omega)).mono ?_
          rintro e w3 ⟨A3, c3, rfl, hc3, m3⟩
          go_wp2_with fail
          refine (mAdd_spec mp p jj num A c k D xs L x w3 w0 _ m3 HM.out (RE.out.lift inferInstance) (T.out.lift inferInstance) (by omega) (by have := HX.out; omega) hcap).mono ?_
          rintro e w4 ⟨r, D4, num4, xs4, k4, jj4, A4, c4, rfl, h4, hs4, hn4, hr4, hc4, m4⟩
          have H4 := Lib.hid h4
          clear h4 m3 mr q0 q1 q2 q3 q4
          rcases hr4 with ⟨rfl, hk4⟩ | ⟨hr, rfl, _, _⟩
          · have hlen4 : k4.files.length ≤ addedSum l (i + 1) := by have := HX.out; have := doK_len hk4; omega
            have m5 : Mod w4 w0 (manS mp p jj4 num4 xs4.length A4 c4 k4 D4 (journal [] (recsB xs4)).length (kfA A3 c3 k.files * G)) := m4
            clear m4 hk4
            go_wp2_with fail
            obtain ⟨G5, hG5, m7⟩ : ∃ G5 : Asn, Sub G5 F ∧ Mod _ w0 (manS mp p jj4 num4 xs4.length A4 c4 k4 D4 (journal [] (recsB xs4)).length G5) := ⟨_, inferInstance, m5⟩
            clear m5
            refine (fail_left p D4 _ w0 _ _ m7 ⟨rfl⟩ 0 false (by omega) 0 rfl).mono ?_
            rintro e w8 ⟨p3, D8, rfl, hl, m8⟩
            have H8 := Lib.hid (H4.out.fail hl)
            clear hl m7
            go_wp2_with fail
            refine (mOpen_old p3 num4 k4 D8 xs4 w8 w0 _ m8 H8.out (T.out.lift inferInstance) (by omega)).mono ?_
            rintro e w9 ⟨mp3, jj3, A9, c9, D9, rfl, h9, _, hc9, m9⟩
            clear m8 h9
            go_wp2_with fail
            refine (files_at mp3 p3 jj3 num4 _ A9 c9 k4 D9 _ _ w0 _ m9 (by have := HX.out; omega)).mono ?_
            rintro e w10 ⟨A10, c10, rfl, _, m10⟩
            have m11 : Mod w10 w0 (manS mp p jj4 num4 xs4.length A4 c4 k4 D4 (journal [] (recsB xs4)).length (manS mp3 p3 jj3 num4 xs4.length A9 c9 k4 D9 (journal [] (recsB xs4)).length (kfA A10 c10 k4.files * G5))) := Mod.to (m := m10) (by unfold manS; ac_rfl)
            clear m9 m10
            go_wp2_with fail
            refine (files_at mp p jj4 num4 _ A4 c4 k4 D4 _ _ w0 _ m11 (by have := HX.out; omega)).mono ?_
            rintro e w12 ⟨A12, c12, rfl, _, m12⟩
            clear m11
            go_wp2_with fail
            refine (sameFiles_spec A10 A12 k4.files.length _ _ k4.files _ w0 _ m12 ((kf_reads A10 c10 k4.files).lift inferInstance) ((kf_reads A12 c12 k4.files).lift inferInstance) (by have := HX.out; omega)).mono ?_
            rintro e w13 ⟨rfl, m13⟩
            clear m12
            go_wp2_with fail
            go_roundg (len1 - (i + 1))
            case measure => omega
            case rel => exact ⟨i + 1, num4, xs4, k4, jj4, A4, c4, D4, _, hlt, rfl, by go_num, H4.out, by omega, hlen4, hc4, inferInstance, m13⟩
          · have hlen4 : k4.files.length ≤ addedSum l (i + 1) := by have := HX.out; omega
            have hr1 : (r == 0) = false := beq_eq_false_iff_ne.2 hr
            have hr2 : (r != 0) = true := bne_iff_ne.2 hr
            go_wp2_with fail
            refine (files_at mp p jj4 num4 _ A4 c4 k4 D4 _ _ w0 _ m4 (by have := HX.out; omega)).mono ?_
            rintro e w5 ⟨A5, c5, rfl, hc5, m5⟩
            clear m4
            go_wp2_with fail
            refine (sameFiles_spec A3 A5 k4.files.length _ _ k4.files _ w0 _ m5 ((kf_reads A3 c3 k4.files).lift inferInstance) ((kf_reads A5 c5 k4.files).lift inferInstance) (by have := HX.out; omega)).mono ?_
            rintro e w6 ⟨rfl, m6⟩
            clear m5
            have m5 := m6
            clear m6
            go_wp2_with fail
            obtain ⟨G5, hG5, m7⟩ : ∃ G5 : Asn, Sub G5 F ∧ Mod _ w0 (manS mp p jj4 num4 xs4.length A4 c4 k4 D4 (journal [] (recsB xs4)).length G5) := ⟨_, inferInstance, m5⟩
            clear m5
            refine (fail_left p D4 _ w0 _ _ m7 ⟨rfl⟩ 0 false (by omega) 0 rfl).mono ?_
            rintro e w8 ⟨p3, D8, rfl, hl, m8⟩
            have H8 := Lib.hid (H4.out.fail hl)
            clear hl m7
            go_wp2_with fail
            refine (mOpen_old p3 num4 k4 D8 xs4 w8 w0 _ m8 H8.out (T.out.lift inferInstance) (by omega)).mono ?_
            rintro e w9 ⟨mp3, jj3, A9, c9, D9, rfl, h9, _, hc9, m9⟩
            clear m8 h9
            go_wp2_with fail
            refine (files_at mp3 p3 jj3 num4 _ A9 c9 k4 D9 _ _ w0 _ m9 (by have := HX.out; omega)).mono ?_
            rintro e w10 ⟨A10, c10, rfl, _, m10⟩
            have m11 : Mod w10 w0 (manS mp p jj4 num4 xs4.length A4 c4 k4 D4 (journal [] (recsB xs4)).length (manS mp3 p3 jj3 num4 xs4.length A9 c9 k4 D9 (journal [] (recsB xs4)).length (kfA A10 c10 k4.files * G5))) := Mod.to (m := m10) (by unfold manS; ac_rfl)
            clear m9 m10
            go_wp2_with fail
            refine (files_at mp p jj4 num4 _ A4 c4 k4 D4 _ _ w0 _ m11 (by have := HX.out; omega)).mono ?_
            rintro e w12 ⟨A12, c12, rfl, _, m12⟩
            clear m11
            go_wp2_with fail
            refine (sameFiles_spec A10 A12 k4.files.length _ _ k4.files _ w0 _ m12 ((kf_reads A10 c10 k4.files).lift inferInstance) ((kf_reads A12 c12 k4.files).lift inferInstance) (by have := HX.out; omega)).mono ?_
            rintro e w13 ⟨rfl, m13⟩
            clear m12
            go_wp2_with fail
            go_roundg (len1 - (i + 1))
            case measure => omega
            case rel => exact ⟨i + 1, num4, xs4, k4, jj4, A4, c4, D4, _, hlt, rfl, by go_num, H4.out, by omega, hlen4, hc4, inferInstance, m13⟩
        · have hii : ¬ (i : Int) < (len1 : Int) := by omega
          have mE : Mod wr w0 (manS mp p jj num xs.length A c k D (journal [] (recsB xs)).length G) := mr
          go_wp2_with fail
          refine (lives14_spec _ w0 _ mE (T.out.lift inferInstance)).mono ?_
          rintro e w3 ⟨rfl, m3⟩
          go_wp2_with fail
          go_ret
          exact ⟨rfl, Mod.sub F⟩
    · have hn4 : (n : Int) < 4096 := by omega
      clear m1
      go_wp2_with fail
      refine (lives14_spec _ w0 _ m2 (T.out.lift inferInstance)).mono ?_
      rintro e w3 ⟨rfl, m3⟩
      go_wp2_with fail
      go_ret
      exact ⟨rfl, Mod.sub F⟩
end Go.Proofs.YtmhlebpchllpbaaGreatDoor
