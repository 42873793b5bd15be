/- The walk of journals' function written: a record's bytes from a place on; the conditions are in each theorem. -/
import Derived.Test.YtmhlebpchllpbaaGreatDoorPartsG
namespace Go.Proofs.YtmhlebpchllpbaaGreatDoor
open Go.RowKit Go.Sl Go.Shelf
attribute [local go_sem] cell_of frozen_of zero_names eql_nil_bytes Oper.semAt_some
theorem drop_two {w w0 : World} {A B C D E : Asn} (m : Mod w w0 (A * (B * (C * (D * E))))) : Mod w w0 (A * (B * E)) := Mod.drop (A := C * D) (m := Mod.to (m := m) (by ac_rfl))
theorem u8_zero : ((Tryz.prog.info? 5).bind (·.zero)) = some (.int .u8 0) := by kernel_rfl
theorem u8_info : ∃ i, Tryz.prog.info? 5 = some i ∧ i.zero = some (.int .u8 0) := by
  have h := u8_zero
  cases hi : Tryz.prog.info? 5 with
  | none => rw [hi] at h; cases h
  | some i => rw [hi] at h; exact ⟨i, rfl, h⟩
theorem u8s_zeros (l : List UInt8) (k : Nat) : u8s l ++ List.replicate k (.int .u8 0) = u8s (l ++ zeros k) := by simp [u8s, zeros]
set_option maxHeartbeats 4000000 in
theorem written_spec (p : Nat) (B : Option Addr) (n c : Nat) (rec : List UInt8) (w w0 : World) (S : Asn) (m : Mod w w0 S) (r : Reads S B n (u8s rec)) (hc : n ≤ c) (hb : p + 15 * n + 14 ≤ 140737488355328) :
    Calls Tryz.prog 85 #[.int .i64 (p : Int), .slice B n c] w fun e w' => ∃ A' c', e = .returned (.slice A' (writ p true rec).length c') ∧ Mod w' w0 (rowA 5 1 (.slice A' (writ p true rec).length c') (writ p true rec).length (u8s (writ p true rec)) * S) := by
  have hn : rec.length = n := by have := reads_len m r; rwa [length_u8s] at this
  obtain ⟨out, hout⟩ : ∃ out, writ p true rec = out := ⟨_, rfl⟩
  have Hout := Lib.hid hout
  rw [hout]
  clear hout
  refine callsIn_wide.1 (callsIn_of_wp_marks (n := 9) Tryz.func85 rfl trivial ?_)
  simp only [Tryz.ntmps85, List.size_toArray, List.length_cons, List.length_nil, Nat.reduceAdd, Nat.reduceSub, Array.replicate_succ, Array.replicate_zero, List.push_toArray, List.append_toArray, List.nil_append, List.cons_append]
  gi_wp2_with (refine ⟨trivial, ?_⟩; gi_at_call 119; refine (callsIn_wide.2 (parts_spec p B n c _ w0 _ inferInstance)).mono ?_; rintro e w1 ⟨pa, pr, rfl, m1⟩)
  refine wp_rangeFunc_sl (gf := 155) (lb := #[ptr pr, ptr pa]) rfl (enters_of Tryz.func155 (by kernel_rfl) rfl) (partsF_seq S pa pr p n c B rec r hn hc (by omega) w0) (fun _ => rfl)
    (fun pre => ex fun q : Option Addr × Nat => blk (w.heap.size + 1) (.cells #[.slice q.1 (emits pre).length q.2] 63 (0, 0)) * (rowA 5 1 (.slice q.1 (emits pre).length q.2) (emits pre).length (u8s (emits pre)) * (blk w.heap.size (.cells #[.int .i64 (p : Int)] 3 (0, 0)) * S)))
    (fun _ _ => pur False) ?start (fun _ _ => trivial) ?acts ?assign ?body ?done ?stop
  case start =>
    refine Mod.to (m := Mod.shut (none, 0) (G := fun q : Option Addr × Nat => blk (w.heap.size + 1) (.cells #[.slice q.1 (emits []).length q.2] 63 (0, 0)) * (rowA 5 1 (.slice q.1 (emits []).length q.2) (emits []).length (u8s (emits [])) * (blk w.heap.size (.cells #[.int .i64 (p : Int)] 3 (0, 0)) * S))) (F := blk pr (.cells #[.slice B n c] 63 (0, 0)) * blk pa (.cells #[.int .i64 (p : Int)] 3 (0, 0))) (m := Mod.to (m := row_none (e := 5) m1) ?_)) rfl
    show _ = (blk (w.heap.size + 1) (.cells #[.slice none 0 0] 63 (0, 0)) * (rowA 5 1 (.slice none 0 0) 0 [] * _)) * _
    ac_rfl
  case acts => exact fun x => { tmps := #[.int .i64 (p : Int), .slice B n c, ptr w.heap.size, undef, ptr (w.heap.size + 1), .int .u8 (x.kind.toNat : Int), .slice x.at_ x.n x.cap, .int .i64 (p : Int), .slice B n c, .func (.func 155) #[] #[ptr pr, ptr pa], .int .u8 (x.kind.toNat : Int), .slice x.at_ x.n x.cap, undef, undef, undef, undef, undef, undef, undef, undef, undef, undef, undef, undef, undef, undef, undef, undef, undef, undef, undef, undef, undef, undef, undef, undef, undef, undef], defers := [] }
  case assign =>
    intro l x W K hK
    simp only [Pt.vals]
    gi_wp2
    exact hK
  case body =>
    intro l pre x X W hN m2
    obtain ⟨⟨A0, c0⟩, m3⟩ := Mod.open (m := m2)
    have m4 : Mod W w0 (blk (w.heap.size + 1) (.cells #[.slice A0 (emits pre).length c0] 63 (0, 0)) * (rowA 5 1 (.slice A0 (emits pre).length c0) (emits pre).length (u8s (emits pre)) * (blk w.heap.size (.cells #[.int .i64 (p : Int)] 3 (0, 0)) * (S * X)))) := Mod.to (m := m3) (by ac_rfl)
    have hlen := hN.length
    have hgap := hN.gap
    have hr := hN.reads
    have hxl := hN.len
    have hsn : emits (pre ++ [x]) = emits pre ++ (zeros x.gap ++ (headB x.kind x.piece ++ x.piece)) := by rw [emits_snoc]; rfl
    have Hsn := Lib.hid hsn
    clear hsn m2 m3 hN m1 m
    obtain ⟨kind, at_, xn, xc, piece, gp⟩ := x
    simp only at hlen hgap hr hxl Hsn ⊢
    generalize emits pre = em at *
    obtain ⟨ne, hne⟩ : ∃ ne, em.length = ne := ⟨_, rfl⟩
    have Hne := Lib.hid hne
    rw [hne] at m4 hlen hgap
    clear hne
    have Hgap := Lib.hid hgap
    clear hgap
    gi_wp2_with fail
    obtain ⟨SS, hSS, mSS⟩ : ∃ SS, SS = _ ∧ Mod W w0 SS := ⟨_, rfl, m4⟩
    have h1 : Has SS (w.heap.size + 1) (.cells #[.slice A0 ne c0] 63 (0, 0)) := by rw [hSS]; infer_instance
    have h2 : Has SS w.heap.size (.cells #[.int .i64 (p : Int)] 3 (0, 0)) := by rw [hSS]; infer_instance
    have HC : Hid (∀ u, Mod u w0 SS → Calls Tryz.prog 102 #[.int .i64 ((p : Int) + (ne : Int))] u fun e w' => e = .returned (.int .i64 (gp : Int)) ∧ Mod w' w0 SS) := fun u mu => by
      have := gap_spec (p + ne) u w0 SS mu (by omega)
      rw [← Hgap.out, Int.natCast_add] at this
      exact this
    have HSS := Lib.hid hSS
    clear hSS
    have := Held.some mSS
    refine wpIn_region_mod_tail 6 mSS (by kernel_rfl) (by kernel_rfl) (by kernel_rfl) (fun ⟨_, _, h⟩ => h) ?_
    simp only [List.take_succ_cons, List.take_zero, List.drop_succ_cons, List.drop_zero]
    repeat (go_big_quiet_step ((go_at_call 102; refine quiet_call (HC.out _ ?_); exact inferInstance)))
    refine wpQuiet_nil ?_
    rintro w3 ⟨s, rfl⟩
    have m5 := s.mod
    clear HC mSS h1 h2 m4
    generalize s.world = w3 at *
    rw [HSS.out] at m5
    clear HSS this s
    obtain ⟨i8, hi8, hz8⟩ := u8_info
    refine wpList_append_zeros (v := .slice A0 ne c0) (k := gp) rfl rfl Tryz.underlying3 hi8 hz8 rfl rfl m5 rfl rfl (by unfold maxLen; omega) (by omega) ?_
    intro A1 c1 w4 m6
    clear m5 hi8 hz8
    rw [u8s_zeros] at m6
    simp only [Act.put, List.setIfInBounds_toArray, List.set_cons_zero, List.set_cons_succ]
    go_wp2_with fail
    have m7 : Mod (w4.setCell ⟨w.heap.size + 1, 0, none⟩ (.slice A1 (ne + gp) c1)) w0 (blk (w.heap.size + 1) (.cells #[.slice A1 (ne + gp) c1] 63 (0, 0)) * (rowA 5 1 (.slice A1 (ne + gp) c1) (ne + gp) (u8s (em ++ zeros gp)) * (blk w.heap.size (.cells #[.int .i64 (p : Int)] 3 (0, 0)) * (S * X)))) :=
      Mod.to (m := (inferInstance : Mod (w4.setCell ⟨w.heap.size + 1, 0, none⟩ (.slice A1 (ne + gp) c1)) w0 (blk (w.heap.size + 1) (.cells #[.slice A1 (ne + gp) c1] 63 (0, 0)) * (rowA 5 1 (.slice A1 (ne + gp) c1) (ne + gp) (u8s (em ++ zeros gp)) * (emp * (emp * (blk w.heap.size (.cells #[.int .i64 (p : Int)] 3 (0, 0)) * (S * X)))))))) (by simp only [emp_sep])
    generalize w4.setCell ⟨w.heap.size + 1, 0, none⟩ (.slice A1 (ne + gp) c1) = w5 at *
    clear m6
    gi_wp2_with fail
    rename_i K0 hK0
    have HE : u8s [UInt8.ofNat (piece.length / 256), UInt8.ofNat piece.length, kind] = [.int .u8 (IntKind.u8.wrap ((xn : Int) / 256)), .int .u8 (IntKind.u8.wrap (xn : Int)), .int .u8 (kind.toNat : Int)] := by
      rw [hxl]; simp [u8s, IntKind.wrap_u8]
    have hcrc : (crcOf kind piece).toNat < 4294967296 := (crcOf kind piece).isLt
    have HT : Hid (∀ (A3 : Option Addr) (c3 : Nat) (v23 v32 v33 : Value) (W' : World), Mod W' w0 (blk (w.heap.size + 1) (.cells #[.slice A3 (ne + gp + 4 + 3) c3] 63 (0, 0)) * (rowA 5 1 (.slice A3 (ne + gp + 4 + 3) c3) (ne + gp + 4 + 3) (u8s (em ++ zeros gp ++ headB kind piece)) * (blk w.heap.size (.cells #[.int .i64 (p : Int)] 3 (0, 0)) * (S * X)))) →
        K0 { tmps := #[.int .i64 (p : Int), .slice B n c, ptr w.heap.size, undef, ptr (w.heap.size + 1), .int .u8 (kind.toNat : Int), .slice at_ xn xc, .int .i64 (p : Int), .slice B n c, .func (.func 155) #[] #[ptr pr, ptr pa], .int .u8 (kind.toNat : Int), .slice at_ xn xc, .slice A0 ne c0, .int .i64 (p : Int), .slice A0 ne c0, .int .i64 (ne : Int), .int .i64 ((p : Int) + (ne : Int)), .int .i64 (gp : Int), .slice A1 (ne + gp) c1, .slice A1 (ne + gp) c1, .int .u8 (kind.toNat : Int), .slice at_ xn xc, .int .u32 ((crcOf kind piece).toNat : Int), v23, .slice at_ xn xc, .int .i64 (xn : Int), .int .i64 ((xn : Int) / 256), .int .u8 (IntKind.u8.wrap ((xn : Int) / 256)), .slice at_ xn xc, .int .i64 (xn : Int), .int .u8 (IntKind.u8.wrap (xn : Int)), .int .u8 (kind.toNat : Int), v32, v33, undef, undef, undef, undef], defers := [] } W') := by
      intro A3 c3 v23 v32 v33 W' m8
      refine hK0 _ _ ?_
      clear hK0 m7
      refine wpIn_region_list (by kernel_rfl) (fun ⟨_, _, h⟩ => h) ?_
      go_wp2_with (at_builtin; (refine wpList_append (v := .slice A3 (ne + gp + 4 + 3) c3) (A := at_) (k := xn) (c := xc) (news := u8s piece) rfl rfl inferInstance rfl rfl (one_u8s _) (by unfold maxLen; omega) (by omega) ?_); intro A4 c4 w9 m9)
      have m10 : Mod (w9.setCell ⟨w.heap.size + 1, 0, none⟩ (.slice A4 (ne + gp + 4 + 3 + xn) c4)) w0 _ := inferInstance
      show Mod _ w0 (ex (fun q : Option Addr × Nat => blk (w.heap.size + 1) (.cells #[.slice q.1 _ q.2] 63 (0, 0)) * (rowA 5 1 (.slice q.1 _ q.2) _ _ * _)) * X)
      rw [Hsn.out]
      have hlen2 : (em ++ (zeros gp ++ (headB kind piece ++ piece))).length = ne + gp + 4 + 3 + xn := by
        simp only [List.length_append, zeros, List.length_replicate, headB_length, hxl, Hne.out]; omega
      have hu : u8s (em ++ zeros gp ++ headB kind piece) ++ u8s piece = u8s (em ++ (zeros gp ++ (headB kind piece ++ piece))) := by simp [u8s]
      rw [hlen2, ← hu]
      refine Mod.shut (A4, c4) (m := Mod.to (m := m10) ?_)
      simp only [emp_sep]
      show blk (w.heap.size + 1) (.cells #[.slice A4 (ne + gp + 4 + 3 + xn) c4] 63 (0, 0)) * _ = _
      ac_rfl
    refine wpIn_region_N 15 (fun u => u.cell? ⟨w.heap.size + 1, 0, none⟩ = some (.slice A1 (ne + gp) c1)) (by kernel_rfl) (by kernel_rfl) (fun ⟨_, _, h⟩ => h) (by rw [cell_of]; rfl) (fun hHeld => ?_)
    simp only [List.size_toArray, List.length_cons, List.length_nil, Nat.reduceAdd]
    refine take_at 0 (some 19) (v := ?_) rfl rfl (by kernel_rfl) (by decide) (by kernel_rfl) (by kernel_rfl) (by kernel_rfl) (fun _ _ _ h => h) (Or.inl ⟨by rfl, ?_⟩) hHeld ?_
    rotate_left 1
    · (intro u hu; (try dsimp only at hu); go_simp; try with_reducible rfl)
    simp only [Act.put, List.setIfInBounds_toArray, List.set_cons_zero, List.set_cons_succ]
    refine take_at 1 (some 20) (v := ?_) rfl rfl (by kernel_rfl) (by decide) (by kernel_rfl) (by kernel_rfl) (by kernel_rfl) (fun _ _ _ h => h) (Or.inl ⟨by rfl, ?_⟩) hHeld ?_
    rotate_left 1
    · (intro u hu; (try dsimp only at hu); go_simp; try with_reducible rfl)
    simp only [Act.put, List.setIfInBounds_toArray, List.set_cons_zero, List.set_cons_succ]
    refine take_at 2 (some 21) (v := ?_) rfl rfl (by kernel_rfl) (by decide) (by kernel_rfl) (by kernel_rfl) (by kernel_rfl) (fun _ _ _ h => h) (Or.inl ⟨by rfl, ?_⟩) hHeld ?_
    rotate_left 1
    · (intro u hu; (try dsimp only at hu); go_simp; try with_reducible rfl)
    simp only [Act.put, List.setIfInBounds_toArray, List.set_cons_zero, List.set_cons_succ]
    refine take_at 5 (some 24) (v := ?_) rfl rfl (by kernel_rfl) (by decide) (by kernel_rfl) (by kernel_rfl) (by kernel_rfl) (fun _ _ _ h => h) (Or.inl ⟨by rfl, ?_⟩) hHeld ?_
    rotate_left 1
    · (intro u hu; (try dsimp only at hu); go_simp; try with_reducible rfl)
    simp only [Act.put, List.setIfInBounds_toArray, List.set_cons_zero, List.set_cons_succ]
    refine take_at 6 (some 25) (v := ?_) rfl rfl (by kernel_rfl) (by decide) (by kernel_rfl) (by kernel_rfl) (by kernel_rfl) (fun _ _ _ h => h) (Or.inl ⟨by rfl, ?_⟩) hHeld ?_
    rotate_left 1
    · (intro u hu; (try dsimp only at hu); go_simp; try with_reducible rfl)
    simp only [Act.put, List.setIfInBounds_toArray, List.set_cons_zero, List.set_cons_succ]
    refine take_at 7 (some 26) (v := ?_) rfl rfl (by kernel_rfl) (by decide) (by kernel_rfl) (by kernel_rfl) (by kernel_rfl) (fun _ _ _ h => h) (Or.inl ⟨by rfl, ?_⟩) hHeld ?_
    rotate_left 1
    · (intro u hu; (try dsimp only at hu); go_simp; try with_reducible rfl)
    simp only [Act.put, List.setIfInBounds_toArray, List.set_cons_zero, List.set_cons_succ]
    refine take_at 8 (some 27) (v := ?_) rfl rfl (by kernel_rfl) (by decide) (by kernel_rfl) (by kernel_rfl) (by kernel_rfl) (fun _ _ _ h => h) (Or.inl ⟨by rfl, ?_⟩) hHeld ?_
    rotate_left 1
    · (intro u hu; (try dsimp only at hu); go_simp; try with_reducible rfl)
    simp only [Act.put, List.setIfInBounds_toArray, List.set_cons_zero, List.set_cons_succ]
    refine take_at 9 (some 28) (v := ?_) rfl rfl (by kernel_rfl) (by decide) (by kernel_rfl) (by kernel_rfl) (by kernel_rfl) (fun _ _ _ h => h) (Or.inl ⟨by rfl, ?_⟩) hHeld ?_
    rotate_left 1
    · (intro u hu; (try dsimp only at hu); go_simp; try with_reducible rfl)
    simp only [Act.put, List.setIfInBounds_toArray, List.set_cons_zero, List.set_cons_succ]
    refine take_at 10 (some 29) (v := ?_) rfl rfl (by kernel_rfl) (by decide) (by kernel_rfl) (by kernel_rfl) (by kernel_rfl) (fun _ _ _ h => h) (Or.inl ⟨by rfl, ?_⟩) hHeld ?_
    rotate_left 1
    · (intro u hu; (try dsimp only at hu); go_simp; try with_reducible rfl)
    simp only [Act.put, List.setIfInBounds_toArray, List.set_cons_zero, List.set_cons_succ]
    refine take_at 11 (some 30) (v := ?_) rfl rfl (by kernel_rfl) (by decide) (by kernel_rfl) (by kernel_rfl) (by kernel_rfl) (fun _ _ _ h => h) (Or.inl ⟨by rfl, ?_⟩) hHeld ?_
    rotate_left 1
    · (intro u hu; (try dsimp only at hu); go_simp; try with_reducible rfl)
    simp only [Act.put, List.setIfInBounds_toArray, List.set_cons_zero, List.set_cons_succ]
    refine take_at 12 (some 31) (v := ?_) rfl rfl (by kernel_rfl) (by decide) (by kernel_rfl) (by kernel_rfl) (by kernel_rfl) (fun _ _ _ h => h) (Or.inl ⟨by rfl, ?_⟩) hHeld ?_
    rotate_left 1
    · (intro u hu; (try dsimp only at hu); go_simp; try with_reducible rfl)
    simp only [Act.put, List.setIfInBounds_toArray, List.set_cons_zero, List.set_cons_succ]
    have HH : u8s (em ++ zeros gp ++ four (crcOf kind piece).toNat) ++ u8s [UInt8.ofNat (piece.length / 256), UInt8.ofNat piece.length, kind] = u8s (em ++ zeros gp ++ headB kind piece) := by simp [u8s, headB]
    refine wpAnyN_ready (rs := [3, 13]) (by kernel_rfl) (by simp) (AllReadyN.cons (some 22) rfl rfl rfl (fun K hK => ?_) (AllReadyN.cons (some 32) rfl rfl rfl (fun K hK => ?_) AllReadyN.nil))
    · go_simp
      refine (sum_spec kind at_ xn xc piece _ w0 _ inferInstance inferInstance (by omega)).mono ?_
      rintro e w7 ⟨rfl, m16⟩
      refine hK.out (.int .u32 ((crcOf kind piece).toNat : Int)) _ (by rw [cell_of]; rfl) (fun hHeld => ?_)
      clear hK K
      simp only [Act.put, List.setIfInBounds_toArray, List.set_cons_zero, List.set_cons_succ]
      refine wpAnyN_ready (rs := [4, 13]) (by kernel_rfl) (by simp) (AllReadyN.cons (some 23) rfl rfl rfl (fun K hK => ?_) (AllReadyN.cons (some 32) rfl rfl rfl (fun K hK => ?_) AllReadyN.nil))
      · go_simp
        refine (putFour_spec A1 (ne + gp) c1 (em ++ zeros gp) (crcOf kind piece).toNat hcrc _ w0 _ inferInstance inferInstance (by omega)).mono ?_
        rintro e w8 ⟨A2, c2, rfl, m17⟩
        refine hK.out (.slice A2 (ne + gp + 4) c2) _ (by rw [cell_of]; rfl) (fun hHeld => ?_)
        clear hK K
        simp only [Act.put, List.setIfInBounds_toArray, List.set_cons_zero, List.set_cons_succ]
        refine wpAnyN_ready (rs := [13]) (by kernel_rfl) (by simp) (AllReadyN.cons (some 32) rfl rfl rfl (fun K hK => ?_) AllReadyN.nil)
        · go_simp
          have mB : Mod (w8.alloc (.cells #[.int .u8 (IntKind.u8.wrap ((xn : Int) / 256)), .int .u8 (IntKind.u8.wrap (xn : Int)), .int .u8 (kind.toNat : Int)] 5)) w0 _ := inferInstance
          refine hK.out (.slice (some ⟨w8.heap.size, 0, none⟩) 3 3) _ (by rw [cell_of]; rfl) (fun hHeld => ?_)
          clear hK K
          simp only [Act.put, List.setIfInBounds_toArray, List.set_cons_zero, List.set_cons_succ]
          obtain ⟨w9, hw9⟩ : ∃ u, u = (w8.alloc (.cells #[.int .u8 (IntKind.u8.wrap ((xn : Int) / 256)), .int .u8 (IntKind.u8.wrap (xn : Int)), .int .u8 (kind.toNat : Int)] 5)) := ⟨_, rfl⟩
          rw [← hw9] at mB hHeld ⊢
          refine wpAnyN_ready (rs := [14]) (by kernel_rfl) (by simp) (AllReadyN.cons (some 33) rfl rfl rfl (fun K hK => ?_) AllReadyN.nil)
          · refine wp_append_row (t := 63) (s := .tmp 23) (x := .tmp 32) rfl (inferInstance : Mod w9 w0 _) (v := .slice A2 (ne + gp + 4) c2) (n := ne + gp + 4) rfl (A := some ⟨w8.heap.size, 0, none⟩) (k := 3) (c := 3) rfl (r := reads_blk rfl rfl) (by simp [Value.oneCell']) (by unfold maxLen; omega) (by omega) ?_
            intro A3 c3 w10 m19
            rw [← HE, HH] at m19
            refine hK.out (.slice A3 (ne + gp + 4 + 3) c3) _ (by rw [cell_of]; rfl) (fun hHeld => ?_)
            clear hK K
            simp only [Act.put, List.setIfInBounds_toArray, List.set_cons_zero, List.set_cons_succ]
            refine wpAnyN_ready (rs := [15]) (by kernel_rfl) (by simp) (AllReadyN.last none rfl rfl rfl (fun K hK => ?_))
            go_simp
            have mE : Mod (w10.setCell ⟨w.heap.size + 1, 0, none⟩ (.slice A3 (ne + gp + 4 + 3) c3)) w0 _ := inferInstance
            refine hK.out undef _ (wpAnyN_done (by kernel_rfl) ?_)
            clear hK K
            refine HT.out A3 c3 _ _ _ _ ?_
            simp only [emp_sep] at mE
            exact drop_two mE
      · go_simp
        have mB : Mod (w7.alloc (.cells #[.int .u8 (IntKind.u8.wrap ((xn : Int) / 256)), .int .u8 (IntKind.u8.wrap (xn : Int)), .int .u8 (kind.toNat : Int)] 5)) w0 _ := inferInstance
        refine hK.out (.slice (some ⟨w7.heap.size, 0, none⟩) 3 3) _ (by rw [cell_of]; rfl) (fun hHeld => ?_)
        clear hK K
        simp only [Act.put, List.setIfInBounds_toArray, List.set_cons_zero, List.set_cons_succ]
        obtain ⟨w11, hw11⟩ : ∃ u, u = (w7.alloc (.cells #[.int .u8 (IntKind.u8.wrap ((xn : Int) / 256)), .int .u8 (IntKind.u8.wrap (xn : Int)), .int .u8 (kind.toNat : Int)] 5)) := ⟨_, rfl⟩
        rw [← hw11] at mB hHeld ⊢
        refine wpAnyN_ready (rs := [4]) (by kernel_rfl) (by simp) (AllReadyN.cons (some 23) rfl rfl rfl (fun K hK => ?_) AllReadyN.nil)
        · go_simp
          refine (putFour_spec A1 (ne + gp) c1 (em ++ zeros gp) (crcOf kind piece).toNat hcrc _ w0 _ inferInstance inferInstance (by omega)).mono ?_
          rintro e w12 ⟨A2, c2, rfl, m21⟩
          refine hK.out (.slice A2 (ne + gp + 4) c2) _ (by rw [cell_of]; rfl) (fun hHeld => ?_)
          clear hK K
          simp only [Act.put, List.setIfInBounds_toArray, List.set_cons_zero, List.set_cons_succ]
          refine wpAnyN_ready (rs := [14]) (by kernel_rfl) (by simp) (AllReadyN.cons (some 33) rfl rfl rfl (fun K hK => ?_) AllReadyN.nil)
          · refine wp_append_row (t := 63) (s := .tmp 23) (x := .tmp 32) rfl (inferInstance : Mod w12 w0 _) (v := .slice A2 (ne + gp + 4) c2) (n := ne + gp + 4) rfl (A := some ⟨w7.heap.size, 0, none⟩) (k := 3) (c := 3) rfl (r := reads_blk rfl rfl) (by simp [Value.oneCell']) (by unfold maxLen; omega) (by omega) ?_
            intro A3 c3 w13 m22
            rw [← HE, HH] at m22
            refine hK.out (.slice A3 (ne + gp + 4 + 3) c3) _ (by rw [cell_of]; rfl) (fun hHeld => ?_)
            clear hK K
            simp only [Act.put, List.setIfInBounds_toArray, List.set_cons_zero, List.set_cons_succ]
            refine wpAnyN_ready (rs := [15]) (by kernel_rfl) (by simp) (AllReadyN.last none rfl rfl rfl (fun K hK => ?_))
            go_simp
            have mE : Mod (w13.setCell ⟨w.heap.size + 1, 0, none⟩ (.slice A3 (ne + gp + 4 + 3) c3)) w0 _ := inferInstance
            refine hK.out undef _ (wpAnyN_done (by kernel_rfl) ?_)
            clear hK K
            refine HT.out A3 c3 _ _ _ _ ?_
            simp only [emp_sep] at mE
            exact drop_two mE
    · go_simp
      have mB : Mod (World.drew (w5.alloc (.cells #[.int .u8 (IntKind.u8.wrap ((xn : Int) / 256)), .int .u8 (IntKind.u8.wrap (xn : Int)), .int .u8 (kind.toNat : Int)] 5))) w0 _ := inferInstance
      refine hK.out (.slice (some ⟨w5.heap.size, 0, none⟩) 3 3) _ (by rw [cell_of]; rfl) (fun hHeld => ?_)
      clear hK K
      simp only [Act.put, List.setIfInBounds_toArray, List.set_cons_zero, List.set_cons_succ]
      obtain ⟨w14, hw14⟩ : ∃ u, u = (World.drew (w5.alloc (.cells #[.int .u8 (IntKind.u8.wrap ((xn : Int) / 256)), .int .u8 (IntKind.u8.wrap (xn : Int)), .int .u8 (kind.toNat : Int)] 5))) := ⟨_, rfl⟩
      rw [← hw14] at mB hHeld ⊢
      refine wpAnyN_ready (rs := [3]) (by kernel_rfl) (by simp) (AllReadyN.cons (some 22) rfl rfl rfl (fun K hK => ?_) AllReadyN.nil)
      · go_simp
        refine (sum_spec kind at_ xn xc piece _ w0 _ inferInstance inferInstance (by omega)).mono ?_
        rintro e w15 ⟨rfl, m24⟩
        refine hK.out (.int .u32 ((crcOf kind piece).toNat : Int)) _ (by rw [cell_of]; rfl) (fun hHeld => ?_)
        clear hK K
        simp only [Act.put, List.setIfInBounds_toArray, List.set_cons_zero, List.set_cons_succ]
        refine wpAnyN_ready (rs := [4]) (by kernel_rfl) (by simp) (AllReadyN.cons (some 23) rfl rfl rfl (fun K hK => ?_) AllReadyN.nil)
        · go_simp
          refine (putFour_spec A1 (ne + gp) c1 (em ++ zeros gp) (crcOf kind piece).toNat hcrc _ w0 _ inferInstance inferInstance (by omega)).mono ?_
          rintro e w16 ⟨A2, c2, rfl, m25⟩
          refine hK.out (.slice A2 (ne + gp + 4) c2) _ (by rw [cell_of]; rfl) (fun hHeld => ?_)
          clear hK K
          simp only [Act.put, List.setIfInBounds_toArray, List.set_cons_zero, List.set_cons_succ]
          refine wpAnyN_ready (rs := [14]) (by kernel_rfl) (by simp) (AllReadyN.cons (some 33) rfl rfl rfl (fun K hK => ?_) AllReadyN.nil)
          · refine wp_append_row (t := 63) (s := .tmp 23) (x := .tmp 32) rfl (inferInstance : Mod w16 w0 _) (v := .slice A2 (ne + gp + 4) c2) (n := ne + gp + 4) rfl (A := some ⟨w5.heap.size, 0, none⟩) (k := 3) (c := 3) rfl (r := reads_blk rfl rfl) (by simp [Value.oneCell']) (by unfold maxLen; omega) (by omega) ?_
            intro A3 c3 w17 m26
            rw [← HE, HH] at m26
            refine hK.out (.slice A3 (ne + gp + 4 + 3) c3) _ (by rw [cell_of]; rfl) (fun hHeld => ?_)
            clear hK K
            simp only [Act.put, List.setIfInBounds_toArray, List.set_cons_zero, List.set_cons_succ]
            refine wpAnyN_ready (rs := [15]) (by kernel_rfl) (by simp) (AllReadyN.last none rfl rfl rfl (fun K hK => ?_))
            go_simp
            have mE : Mod (w17.setCell ⟨w.heap.size + 1, 0, none⟩ (.slice A3 (ne + gp + 4 + 3) c3)) w0 _ := inferInstance
            refine hK.out undef _ (wpAnyN_done (by kernel_rfl) ?_)
            clear hK K
            refine HT.out A3 c3 _ _ _ _ ?_
            simp only [emp_sep] at mE
            exact drop_two mE
  case done =>
    intro D xs W hS m2
    rw [sep_emp, sep_comm] at m2
    obtain ⟨⟨A', c'⟩, m3⟩ := Mod.open (m := Mod.to (m := m2) rfl)
    have m4 : Mod W w0 (blk (w.heap.size + 1) (.cells #[.slice A' (emits xs).length c'] 63 (0, 0)) * (blk D (.deferred (some [])) * (rowA 5 1 (.slice A' (emits xs).length c') (emits xs).length (u8s (emits xs)) * (blk w.heap.size (.cells #[.int .i64 (p : Int)] 3 (0, 0)) * S)))) := Mod.to (m := m3) (by ac_rfl)
    rw [hS, Hout.out] at m4
    clear m2 m3 hS m1 m
    go_wp2
    gi_wp2
    have hK : (W.setCell ⟨w.heap.size + 1, 0, none⟩ (.slice A' out.length c')).heap[D]? = some (.deferred (some [])) := take_heap (m := (inferInstance : Mod (W.setCell ⟨w.heap.size + 1, 0, none⟩ (.slice A' out.length c')) w0 _)) inferInstance
    refine ⟨by simp, .inl ⟨_, _, rfl, run_takeDeferred hK, ?_⟩⟩
    have m5 : Mod ((W.setCell ⟨w.heap.size + 1, 0, none⟩ (.slice A' out.length c')).putObj D (.deferred none)) w0 _ := Mod.putObj (m := (inferInstance : Mod (W.setCell ⟨w.heap.size + 1, 0, none⟩ (.slice A' out.length c')) w0 _)) (t := inferInstance) _
    generalize (W.setCell ⟨w.heap.size + 1, 0, none⟩ (.slice A' out.length c')).putObj D (.deferred none) = W2 at *
    have hcell : W2.cell? ⟨w.heap.size + 1, 0, none⟩ = some (.slice A' out.length c') := by rw [cell_of]; rfl
    refine ⟨.slice A' out.length c', by simp [results, asAddr, loadVar, hcell, Tryz.f85], ?_⟩
    refine ⟨A', c', rfl, ?_⟩
    simp only [emp_sep] at m5
    have m6 := Mod.drop (m := Mod.drop (m := m5))
    exact Mod.drop (A := blk w.heap.size (.cells #[.int .i64 (p : Int)] 3 (0, 0))) (m := Mod.to (m := m6) (by ac_rfl))
  case stop =>
    intro D c' pre W _ m2
    rw [sep_emp, sep_comm, ] at m2
    exact (Mod.openP (m := m2)).1.elim
end Go.Proofs.YtmhlebpchllpbaaGreatDoor
