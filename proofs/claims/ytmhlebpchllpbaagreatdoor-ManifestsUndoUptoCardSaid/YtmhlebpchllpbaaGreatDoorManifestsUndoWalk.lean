/- The walk of ManifestsUndo: it returns true and changes nothing that was there; the conditions are in the theorem. -/
import Derived.Test.YtmhlebpchllpbaaGreatDoorManifestsFullWalk
import Derived.Test.YtmhlebpchllpbaaGreatDoorMfFG
namespace Go.Proofs.YtmhlebpchllpbaaGreatDoor
open Go.RowKit Go.Sl
attribute [local go_sem] cell_of cellAt_of frozen_of zero_names
theorem manS_alloc {mp p jj num many : Nat} {A : Option Addr} {c : Nat} {k : MKnow} {D : DiskSt} {en : Nat} {w w0 : World} {G : Asn} (cs : Array Value) (t : TypeId) (m : Mod w w0 (manS mp p jj num many A c k D en G)) : Mod (w.alloc (.cells cs t)) w0 (manS mp p jj num many A c k D en (blk w.heap.size (.cells cs t (0, 0)) * G)) :=
  Mod.to (m := Mod.alloc (m := m) (.cells cs t)) (by unfold manS; ac_rfl)
/-- An add that is sure. -/
theorem mAdd_sure {mp p jj num : Nat} {A : Option Addr} {c : Nat} {k k' : MKnow} {D : DiskSt} {xs : List EditV} {L : EditL} (x : EditV) {w w0 : World} {F : Asn}
    (m : Mod w w0 (manS mp p jj num xs.length A c k D (journal [] (recsB xs)).length F)) (h : MInv D num xs k) (r : ReadsEdit F L x) (tab : TabIn F) (hnum : num ≤ 1000000) (hlen : k.files.length + x.added.length ≤ 1100000) (hcap : k.files.length ≤ c) (hd : doK k x = some k') (hg : GoodAdd D k xs x) :
    Calls Tryz.prog 9 #[ptr mp, .agg (editCells L x)] w fun e w' => ∃ (D' : DiskSt) (num' : Nat) (xs' : List EditV) (jj' : Nat) (A' : Option Addr) (c' : Nat), e = .returned (.int .i64 0) ∧ Hid (MInv D' num' xs' k') ∧ D'.size = D.size ∧ num' ≤ num + 2 ∧ k'.files.length ≤ c' ∧ Mod w' w0 (manS mp p jj' num' xs'.length A' c' k' D' (journal [] (recsB xs')).length F) := by
  refine (mAdd_spec mp p jj num A c k D xs L x w w0 F m h r tab (by omega) hlen hcap).mono ?_
  rintro e w' ⟨r, D', num', xs', k2, jj', A', c', rfl, h1, h2, h3, h4, h5, h6⟩
  obtain ⟨rfl, hk⟩ : r = 0 ∧ doK k x = some k2 := h4.elim id fun q => absurd hg q.2.2.1
  obtain rfl : k' = k2 := Option.some.inj (hd.symm.trans hk)
  exact ⟨D', num', xs', jj', A', c', rfl, Lib.hid h1, h2, h3, h5, h6⟩
theorem reads_e {S : Asn} {aA : Option Addr} {aC : Nat} {rA : Option Addr} {rC : Nat} {fa : List FileV} {rm : List Nat} (h1 : ReadsFiles S aA fa.length fa) (h2 : ReadsNums S rA rm.length rm) (h3 : ∀ f ∈ fa, f.num < 4294967296) (h4 : ∀ v ∈ rm, v < 4294967296) (h5 : fa.length ≤ 1100000) (h6 : rm.length ≤ 1100000) (h7 : fa.length ≤ aC) (h8 : rm.length ≤ rC) : ReadsEdit S ⟨aA, aC, rA, rC⟩ ⟨fa, rm, 0, 0, 0⟩ :=
  ⟨h1, h2, h3, h4, h5, h6, by show (0 : Nat) < _; decide, by show (0 : Nat) < _; decide, by show (0 : Nat) < _; decide, h7, h8⟩
theorem one_file {g : Nat} (f : FileV) : ReadsFiles (blk g (.cells #[.int .u32 (f.num : Int), .int .i64 f.level, .string f.least, .string f.most] 44 (0, 0))) (some ⟨g, 0, none⟩) [f].length [f] := ⟨rfl, reads_blk (by simp [FileV.cells]) (by simp [FileV.cells])⟩
theorem one_num {g : Nat} (n : Nat) : ReadsNums (blk g (.cells #[.int .u32 (n : Int)] 36 (0, 0))) (some ⟨g, 0, none⟩) [n].length [n] := ⟨rfl, reads_blk rfl rfl⟩
theorem nums_reads (B : Option Addr) (c : Nat) (l : List FileV) : ReadsNums (rowA 36 1 (.slice B l.length c) l.length (l.map fun f : FileV => Value.int .u32 (f.num : Int))) B (l.map (·.num)).length (l.map (·.num)) := by
  refine ⟨rfl, ?_⟩
  rw [List.map_map, List.length_map]
  exact inferInstanceAs (Reads (rowA 36 1 (.slice B l.length c) l.length (l.map fun f : FileV => Value.int .u32 (f.num : Int))) B l.length (l.map fun f : FileV => Value.int .u32 (f.num : Int)))
set_option maxRecDepth 8000 in
set_option maxHeartbeats 16000000 in
theorem manifestsUndo_walk (a0 : Option Addr) (len0 cap0 : Nat) (f : FileV) (w w0 : World) (F : Asn) (m : Mod w w0 F) (hf : f.num < 4294967296) (l : List (EditL × EditV)) (r : ReadsEdits F a0 len0 l) (hn : len0 ≤ 1048576) (tab : TabIn F) :
    Calls Tryz.prog 4 #[.slice a0 len0 cap0, .agg #[.int .u32 (f.num : Int), .int .i64 f.level, .string f.least, .string f.most]] w fun e w' => e = .returned (.bool true) ∧ Mod w' w0 F := by
  have T := Lib.hid tab
  have R := Lib.hid r
  have HB := Lib.hid r.sum
  clear tab r
  go_enter Tryz.func4, Tryz.ntmps4
  by_cases hbig : 60 < len0
  · have hb : (len0 : Int) > 60 := by omega
    go_wp2_with fail
    refine (lives14_spec _ w0 _ (Mod.alloc (m := m) _) (T.out.lift inferInstance)).mono ?_
    rintro e w1 ⟨rfl, m1⟩
    go_wp2_with fail
    go_ret
    exact ⟨rfl, Mod.sub F⟩
  · have hb : ¬ (len0 : Int) > 60 := by omega
    go_wp2_with fail
    refine (new_ok 8388608 _ w0 _ (Mod.alloc (m := m) _) (by omega) (by omega)).mono ?_
    rintro e w1 ⟨p, rfl, m1⟩
    go_wp2_with fail
    refine (mOpen_new p 8388608 w1 w0 _ m1 (T.out.lift inferInstance)).mono ?_
    rintro e w2 (⟨mp, jj, D1, rfl, h1, hs1, m2⟩ | ⟨h, _⟩)
    rotate_left
    · exact absurd h (by decide)
    obtain ⟨gx, hgx⟩ : ∃ gx, gx = w.heap.size := ⟨_, rfl⟩
    rw [← hgx] at m2 ⊢
    have H1 := Lib.hid h1
    clear m1 h1 hgx
    go_wp2_with fail
    go_loopg [9] len0 (fun gk iv wr => ∃ (i num : Nat) (xs : List EditV) (k : MKnow) (jj : Nat) (A : Option Addr) (c : Nat) (D : DiskSt), i ≤ len0 ∧ gk = len0 - i ∧ iv = .int .i64 (i : Int) ∧ MInv D num xs k ∧ D.size = 8388608 ∧ num ≤ 1 + 2 * i ∧ k.files.length ≤ addedSum l i ∧ k.files.length ≤ c ∧ Mod wr w0 (manS mp p jj num xs.length A c k D (journal [] (recsB xs)).length (blk gx (.cells #[.int .u32 (f.num : Int), .int .i64 f.level, .string f.least, .string f.most] 44 (0, 0)) * F)))
    case atStart => exact ⟨0, 1, [], noKnow, jj, none, 0, D1, Nat.zero_le _, rfl, rfl, H1.out, hs1, by omega, Nat.zero_le _, Nat.zero_le _, m2⟩
    case round =>
      obtain ⟨i, num, xs, k, jj, A, c, D, hi, hgk, rfl, hM, hsz, hnum, hlen, hcap, mr⟩ := hrel
      have HM := Lib.hid hM
      clear hM
      by_cases hlt : i < len0
      · have hii : (i : Int) < (len0 : Int) := by omega
        have hil : i < l.length := by rw [R.out.len]; exact hlt
        have hx := addedSum_next hil
        have hx2 := addedSum_le (l := l) (i + 1)
        have hx3 := HB.out
        have re : ReadsEdit F l[i].1 l[i].2 := R.out.each _ (List.getElem_mem hil)
        obtain ⟨b, o, rfl⟩ := edits_some m R.out hlt
        obtain ⟨q0, q1, q2, q3, q4⟩ := edit_at R.out hil
        obtain ⟨L, x, hLx⟩ : ∃ L x, l[i] = (L, x) := ⟨_, _, rfl⟩
        rw [hLx] at re q0 q1 q2 q3 q4 hx
        simp only at re q0 q1 q2 q3 q4 hx
        clear hLx hil
        have RE := Lib.hid re
        have HX : Hid (addedSum l (i + 1) = addedSum l i + x.added.length ∧ addedSum l (i + 1) ≤ 1048576) := Lib.hid ⟨hx, by omega⟩
        clear re hx hx2 hx3
        have hi0 : (0 : Int) ≤ (i : Int) := by omega
        go_wp2_with fail
        refine (mAdd_spec mp p jj num A c k D xs L x _ w0 _ mr HM.out (RE.out.lift inferInstance) (T.out.lift inferInstance) (by omega) (by have := HX.out; omega) hcap).mono ?_
        rintro e w4 ⟨r, D4, num4, xs4, k4, jj4, A4, c4, rfl, h4, hs4, hn4, hr4, hc4, m4⟩
        have hlen4 : k4.files.length ≤ addedSum l (i + 1) := by
          have := HX.out
          rcases hr4 with ⟨_, hk4⟩ | ⟨_, rfl, _, _⟩
          · have := doK_len hk4; omega
          · omega
        have H4 := Lib.hid h4
        clear h4 mr hr4 q0 q1 q2 q3 q4
        go_wp2_with fail
        go_roundg (len0 - (i + 1))
        case measure => omega
        case rel => exact ⟨i + 1, num4, xs4, k4, jj4, A4, c4, D4, hlt, rfl, by go_num, H4.out, hs4.trans hsz, by omega, hlen4, hc4, m4⟩
      · have hii : ¬ (i : Int) < (len0 : Int) := by omega
        have mE : Mod wr w0 (manS mp p jj num xs.length A c k D (journal [] (recsB xs)).length (blk gx (.cells #[.int .u32 (f.num : Int), .int .i64 f.level, .string f.least, .string f.most] 44 (0, 0)) * F)) := mr
        have hlen2 : k.files.length ≤ 1048576 := by have := addedSum_le (l := l) i; have := HB.out; omega
        clear mr hlen
        go_wp2_with fail
        refine (files_at mp p jj num _ A c k D _ _ w0 _ mE (by omega)).mono ?_
        rintro e w3 ⟨A3, c3, rfl, hc3, m3⟩
        clear mE
        by_cases h20 : 20 < k.files.length
        · have h20 : ((k.files.length : Nat) : Int) > 20 := by omega
          go_wp2_with fail
          refine (lives14_spec _ w0 _ m3 (T.out.lift inferInstance)).mono ?_
          rintro e w4 ⟨rfl, m4⟩
          go_wp2_with fail
          go_ret
          exact ⟨rfl, Mod.sub F⟩
        · have h20 : ¬ ((k.files.length : Nat) : Int) > 20 := by omega
          go_wp2_with fail
          have hk20 : k.files.length ≤ 20 := by omega
          have hKO := Lib.hid HM.out.know
          obtain ⟨FF, hsub, hhas, hrd, m4⟩ : ∃ FF : Asn, Sub FF F ∧ Has FF gx (.cells #[.int .u32 (f.num : Int), .int .i64 f.level, .string f.least, .string f.most] 44 (0, 0)) ∧ ReadsFiles FF A3 k.files.length k.files ∧ Mod w3 w0 (manS mp p jj num xs.length A c k D (journal [] (recsB xs)).length FF) := ⟨_, inferInstance, inferInstance, (kf_reads A3 c3 k.files).lift inferInstance, m3⟩
          have HR := Lib.hid hrd
          clear m3 hrd
          refine (mAdd_spec mp p jj num A c k D xs ⟨some ⟨w3.heap.size, 0, none⟩, 1, none, 0⟩ (xAdd f) _ w0 _ (manS_alloc #[.int .u32 (f.num : Int), .int .i64 f.level, .string f.least, .string f.most] 44 m4) HM.out ((reads_e (one_file f) ⟨rfl, reads_nil⟩ (by simpa using hf) (by simp) (by simp) (by simp) (by simp) (by simp)).lift inferInstance) (T.out.lift inferInstance) (by omega) (by show k.files.length + 1 ≤ 1100000; omega) hcap).mono ?_
          rintro e w5 ⟨r, D5, num5, xs5, k5, jj5, A5, c5, rfl, h5, hs5, hn5, hr5, hc5, m5'⟩
          have m5 := manS_weak m5' (inferInstance : Sub _ FF)
          have H5 := Lib.hid h5
          have hz5 : D5.size = 8388608 := hs5.trans hsz
          clear m5' m4 h5 hs5
          rcases hr5 with ⟨rfl, hd5⟩ | ⟨hr, rfl, _, _⟩
          · obtain ⟨hfine, hperm, hl5⟩ := undo_add hd5
            have hK5 := H5.out.know
            obtain ⟨k7, hd7, hk7⟩ := undo_drop hKO.out hK5 hperm
            have hg7 := Lib.hid (good_undo (D := D5) (xs := xs5) hz5 (x := xDrop f.num) rfl (by simp [xDrop]) (by simpa [xDrop] using hf) (by simp [xDrop]) (by simp [xDrop]) rfl rfl rfl hd7 (by omega))
            have HD7 := Lib.hid hd7
            have HF := Lib.hid hfine
            have HP := Lib.hid hl5
            clear hd5 hperm hK5 hd7 hfine
            go_wp2_with fail
            refine (files_at mp p jj5 num5 _ A5 c5 k5 D5 _ _ w0 _ m5 (by omega)).mono ?_
            rintro e w6 ⟨A6, c6, rfl, hc6, m6⟩
            clear m5
            rw [HP.out]
            clear hl5
            have hkn : (k.files.length : Int) < 2000000 := by omega
            go_wp2_with fail
            refine (mAdd_sure (L := ⟨none, 0, some ⟨w6.heap.size, 0, none⟩, 1⟩) (xDrop f.num) (manS_alloc #[.int .u32 (f.num : Int)] 36 m6) H5.out ((reads_e ⟨rfl, reads_nil⟩ (one_num f.num) (by simp) (by simpa using hf) (by simp) (by simp) (by simp) (by simp)).lift inferInstance) (T.out.lift inferInstance) (by omega) (by show k5.files.length + 0 ≤ 1100000; have := HP.out; omega) hc5 HD7.out hg7.out).mono ?_
            rintro e w7 ⟨D7, num7, xs7, jj7, A7, c7, rfl, H7, hs7, hn7, hc7, m7'⟩
            have m7 := manS_weak m7' (inferInstance : Sub _ FF)
            have hz7 : D7.size = 8388608 := hs7.trans hz5
            clear m7' m6 hs7 hg7 HD7
            go_wp2_with fail
            refine (files_at mp p jj7 num7 _ A7 c7 k7 D7 _ _ w0 _ m7 (by rw [hk7]; omega)).mono ?_
            rintro e w8 ⟨A8, c8, rfl, hc8, m8⟩
            rw [hk7] at m8 ⊢
            clear m7
            go_wp2_with fail
            refine (sameFiles_spec A3 A8 k.files.length _ _ k.files _ w0 _ m8 (HR.out.lift inferInstance) ((kf_reads A8 c8 k.files).lift inferInstance) (by omega)).mono ?_
            rintro e w9 ⟨rfl, m9'⟩
            have m9 := row_none_n (e := 36) (size := 1) (manS_weak m9' (inferInstance : Sub _ FF))
            clear m9' m8
            have HK7 := Lib.hid hk7
            clear hk7
            go_wp2_with fail
            go_loopg [11, 12] k.files.length (fun gk av iv wr => ∃ (j : Nat) (B : Option Addr) (cB : Nat), j ≤ k.files.length ∧ gk = k.files.length - j ∧ av = .slice B j cB ∧ iv = .int .i64 (j : Int) ∧ Mod wr w0 (rowA 36 1 (.slice B j cB) j ((k.files.take j).map fun f : FileV => Value.int .u32 (f.num : Int)) * manS mp p jj7 num7 xs7.length A7 c7 k7 D7 (journal [] (recsB xs7)).length FF))
            case atStart => exact ⟨0, none, 0, Nat.zero_le _, rfl, rfl, rfl, m9⟩
            case round =>
              obtain ⟨j, B, cB, hj, hgk, rfl, rfl, mr⟩ := hrel
              by_cases hlt : j < k.files.length
              · have hjj : (j : Int) < (k.files.length : Int) := by omega
                have hj0 : (0 : Int) ≤ (j : Int) := by omega
                obtain ⟨b, o, rfl⟩ := files_some mr (HR.out.lift inferInstance) hlt
                obtain ⟨q0, _, _, _⟩ := file_at HR.out hlt
                obtain ⟨nm, hnm⟩ : ∃ nm, nm = k.files[j].num := ⟨_, rfl⟩
                rw [← hnm] at q0
                have HT : Hid ((k.files.take (j + 1)).map (fun f : FileV => Value.int .u32 (f.num : Int)) = (k.files.take j).map (fun f : FileV => Value.int .u32 (f.num : Int)) ++ [.int .u32 (nm : Int)]) := Lib.hid (by
                  rw [List.take_add_one, List.getElem?_eq_getElem hlt, List.map_append, hnm]; rfl)
                clear hnm
                generalize (k.files.take j).map (fun f : FileV => Value.int .u32 (f.num : Int)) = tk at mr HT
                go_wp2_with (at_builtin; (refine wpList_append (v := .slice B j cB) (k := 1) (c := 1) (news := [.int .u32 (nm : Int)]) (r := reads_blk rfl rfl) rfl rfl inferInstance rfl rfl (by simp [Value.oneCell']) (by unfold maxLen; omega) (by omega) ?_); intro B2 cB2 w10 m10)
                go_roundg (k.files.length - (j + 1))
                case measure => omega
                case rel => exact ⟨j + 1, B2, cB2, hlt, rfl, rfl, by go_num, by rw [HT.out]; exact Mod.keep m10⟩
              · have hjj : ¬ (j : Int) < (k.files.length : Int) := by omega
                obtain rfl : j = k.files.length := by omega
                have hcB := row_len_cap mr
                rw [List.take_length] at mr
                have mE : Mod wr w0 (manS mp p jj7 num7 xs7.length A7 c7 k7 D7 (journal [] (recsB xs7)).length (rowA 36 1 (.slice B k.files.length cB) k.files.length (k.files.map fun f : FileV => Value.int .u32 (f.num : Int)) * FF)) := Mod.to (m := mr) (by unfold manS; ac_rfl)
                have HN : Hid (ReadsNums (rowA 36 1 (.slice B k.files.length cB) k.files.length (k.files.map fun f : FileV => Value.int .u32 (f.num : Int))) B (k7.files.map (·.num)).length (k7.files.map (·.num))) := Lib.hid (by rw [HK7.out]; exact nums_reads B cB k.files)
                have HQ : Hid (∀ v ∈ k7.files.map (·.num), v < 4294967296) := Lib.hid (by
                  intro v hv
                  obtain ⟨f, h1, rfl⟩ := List.mem_map.1 hv
                  exact H7.out.know.nums f h1)
                obtain ⟨k9, hd9, hk9⟩ := undo_take H7.out.know HF.out
                have hg9 := Lib.hid (good_undo (D := D7) (xs := xs7) hz7 (x := xTake f k7.files) HF.out (by simpa [xTake] using hf) HQ.out (by simp [xTake]) (by show (k7.files.map (·.num)).length ≤ 21; rw [HK7.out, List.length_map]; omega) rfl rfl rfl hd9 (by rw [HK7.out]; omega))
                have HD9 := Lib.hid hd9
                have HK9 := Lib.hid hk9
                clear mr hd9 hk9
                generalize (k.files.map fun f : FileV => Value.int .u32 (f.num : Int)) = nsV at mE HN
                go_wp2_with fail
                rw [show Value.slice B k.files.length cB = .slice B (k7.files.map (·.num)).length cB by rw [HK7.out, List.length_map]]
                refine (mAdd_sure (L := ⟨some ⟨wr.heap.size, 0, none⟩, 1, B, cB⟩) (xTake f k7.files) (manS_alloc #[.int .u32 (f.num : Int), .int .i64 f.level, .string f.least, .string f.most] 44 mE) H7.out ((reads_e ((one_file f).lift inferInstance) (HN.out.lift inferInstance) (by simpa using hf) HQ.out (by simp) (by rw [HK7.out, List.length_map]; omega) (by simp) (by rw [HK7.out, List.length_map]; omega))) (T.out.lift inferInstance) (by omega) (by rw [HK7.out]; show k.files.length + 1 ≤ 1100000; omega) hc7 HD9.out hg9.out).mono ?_
                rintro e w11 ⟨D9, num9, xs9, jj9, A9, c9, rfl, H9, hs9, hn9, hc9, m11'⟩
                have m11 := manS_weak m11' (inferInstance : Sub _ FF)
                have hz9 : D9.size = 8388608 := hs9.trans hz7
                clear m11' mE hs9 hg9 HD9
                go_wp2_with fail
                refine (files_at mp p jj9 num9 _ A9 c9 k9 D9 _ _ w0 _ m11 (by rw [HK9.out]; simp)).mono ?_
                rintro e w12 ⟨A12, c12, rfl, hc12, m12'⟩
                have m12 := manS_weak m12' (inferInstance : Sub _ FF)
                rw [HK9.out]
                clear m12' m11
                obtain ⟨k13, hd13, hk13⟩ := undo_back hKO.out H9.out.know HK9.out
                have hg13 := Lib.hid (good_undo (D := D9) (xs := xs9) hz9 (x := xBack k.files f.num) hKO.out.fine hKO.out.nums (by simpa [xBack] using hf) (by show k.files.length ≤ 21; omega) (by simp [xBack]) rfl rfl rfl hd13 (by rw [HK9.out]; simp))
                have HD13 := Lib.hid hd13
                have HK13 := Lib.hid hk13
                clear hd13 hk13
                go_wp2_with fail
                refine (mAdd_sure (L := ⟨A3, k.files.length, some ⟨w12.heap.size, 0, none⟩, 1⟩) (xBack k.files f.num) (manS_alloc #[.int .u32 (f.num : Int)] 36 m12) H9.out (reads_e (HR.out.lift inferInstance) ((one_num f.num).lift inferInstance) hKO.out.nums (by simpa using hf) (by omega) (by simp) (Nat.le_refl _) (by simp)) (T.out.lift inferInstance) (by omega) (by rw [HK9.out]; show 1 + k.files.length ≤ 1100000; omega) hc9 HD13.out hg13.out).mono ?_
                rintro e w14 ⟨D13, num13, xs13, jj13, A13, c13, rfl, H13, hs13, hn13, hc13, m14'⟩
                have m14 := manS_weak m14' (inferInstance : Sub _ FF)
                clear m14' m12 hs13 hg13 HD13
                go_wp2_with fail
                refine (files_at mp p jj13 num13 _ A13 c13 k13 D13 _ _ w0 _ m14 (by rw [HK13.out]; omega)).mono ?_
                rintro e w15 ⟨A15, c15, rfl, hc15, m15⟩
                rw [HK13.out] at m15 ⊢
                clear m14
                go_wp2_with fail
                refine (sameFiles_spec A3 A15 k.files.length _ _ k.files _ w0 _ m15 (HR.out.lift inferInstance) ((kf_reads A15 c15 k.files).lift inferInstance) (by omega)).mono ?_
                rintro e w16 ⟨rfl, m16⟩
                clear m15
                go_wp2_with fail
                refine (lives14_spec _ w0 _ m16 (T.out.lift inferInstance)).mono ?_
                rintro e w17 ⟨rfl, m17⟩
                go_wp2_with fail
                go_ret
                exact ⟨rfl, Mod.sub F⟩
          · have hr1 : (r == 0) = false := beq_eq_false_iff_ne.2 hr
            have hr2 : (r != 0) = true := bne_iff_ne.2 hr
            go_wp2_with fail
            refine (files_at mp p jj5 num5 _ A5 c5 k5 D5 _ _ w0 _ m5 (by omega)).mono ?_
            rintro e w6 ⟨A6, c6, rfl, hc6, m6⟩
            clear m5
            go_wp2_with fail
            refine (sameFiles_spec A3 A6 k5.files.length _ _ k5.files _ w0 _ m6 (HR.out.lift inferInstance) ((kf_reads A6 c6 k5.files).lift inferInstance) (by omega)).mono ?_
            rintro e w7 ⟨rfl, m7⟩
            clear m6
            go_wp2_with fail
            refine (lives14_spec _ w0 _ m7 (T.out.lift inferInstance)).mono ?_
            rintro e w8 ⟨rfl, m8⟩
            go_wp2_with fail
            go_ret
            exact ⟨rfl, Mod.sub F⟩
end Go.Proofs.YtmhlebpchllpbaaGreatDoor
