/- The walk of the reference's read (bucketlineref06): a part, at a place; the conditions are in the theorem. -/
import Derived.Test.YtcakdaadbpimaaaGreatDoorRefPart
import Derived.Test.YtcakdaadbpimaaaGreatDoorReadG
import Derived.Deep.RegionWith
import Derived.IntWalk
namespace Go.Proofs.YtcakdaadbpimaaaGreatDoor
open Go.RowKit Go.Sl
attribute [local go_sem] cell_of cellAt_of frozen_of conv_bs
theorem four_four4 (a b c d : UInt8) : four (four4 a b c d) = [a, b, c, d] := by
  have ha := a.toNat_lt
  have hb := b.toNat_lt
  have hc := c.toNat_lt
  have hd := d.toNat_lt
  have e : ∀ (x : UInt8) (n : Nat), n % 256 = x.toNat → UInt8.ofNat n = x := fun x n h => by
    apply UInt8.toNat_inj.1
    rw [UInt8.toNat_ofNat']
    exact h
  unfold four four4
  rw [e a _ (by omega), e b _ (by omega), e c _ (by omega), e d _ (by omega)]
/-- A part is what it is written as, just if its sum is right. -/
theorem part_same {b : List UInt8} {q nn : Nat} {a0 a1 a2 a3 l1 l0 kind : UInt8} (hd : b.drop q = a0 :: a1 :: a2 :: a3 :: l1 :: l0 :: kind :: b.drop (q + 7)) (hn : 256 * l1.toNat + l0.toNat = nn) (hl : ((b.drop (q + 7)).take nn).length = nn) :
    partB kind ((b.drop (q + 7)).take nn) = (b.drop q).take (7 + nn) ↔ (crcOf kind ((b.drop (q + 7)).take nn)).toNat = four4 a0 a1 a2 a3 := by
  have e7 : (b.drop q).take (7 + nn) = [a0, a1, a2, a3] ++ ([l1, l0, kind] ++ (b.drop (q + 7)).take nn) := by
    rw [hd, Nat.add_comm 7 nn]; rfl
  have h1 := l1.toNat_lt
  have h0 := l0.toNat_lt
  have e1 : UInt8.ofNat (nn / 256) = l1 := by apply UInt8.toNat_inj.1; rw [UInt8.toNat_ofNat']; omega
  have e0 : UInt8.ofNat nn = l0 := by apply UInt8.toNat_inj.1; rw [UInt8.toNat_ofNat']; omega
  rw [e7]
  unfold partB headB
  rw [hl, e1, e0, List.append_assoc]
  have hx := (crcOf kind ((b.drop (q + 7)).take nn)).isLt
  constructor
  · intro h
    have h2 := (List.append_inj h (by rfl)).1
    have h3 := four4_four (crcOf kind ((b.drop (q + 7)).take nn)).toNat hx
    unfold four at h2
    simp only [List.cons.injEq, and_true] at h2
    obtain ⟨rfl, rfl, rfl, rfl⟩ := h2
    exact h3.symm
  · intro h
    rw [h, four_four4]
def ReadPart (at_ : Nat) (S : Asn) (w0 : World) (e : Ending) (w' : World) : Option (UInt8 × List UInt8 × Nat) → Prop
  | none => e = .returned (.tuple #[.int .u8 0, .slice none 0 0, .int .i64 0]) ∧ Mod w' w0 S
  | some x => ∃ A c, e = .returned (.tuple #[.int .u8 (x.1.toNat : Int), .slice A x.2.1.length c, .int .i64 ((x.2.2 - at_ : Nat) : Int)]) ∧ Mod w' w0 (rowA 5 1 (.slice A x.2.1.length c) x.2.1.length (u8s x.2.1) * S)
set_option maxRecDepth 8000 in
set_option maxHeartbeats 8000000 in
theorem r6read_spec (at_ : Nat) (B : Option Addr) (n c : Nat) (b : List UInt8) (w w0 : World) (S : Asn) (m : Mod w w0 S) (r : Reads S B n (u8s b)) (hc : n ≤ c) (hn : n ≤ 1048576) (ha : at_ ≤ n) :
    Calls Tryz.prog 159 #[.slice B n c, .int .i64 (at_ : Int)] w fun e w' => ReadPart at_ S w0 e w' (Sl.partAt b (at_ + gapOf at_)) := by
  have hbl := reads_len m r
  rw [length_u8s] at hbl
  obtain ⟨g, hg⟩ : ∃ g, gapOf at_ = g := ⟨_, rfl⟩
  have hgap : g = if 128 - at_ % 128 ≤ 7 then 128 - at_ % 128 else 0 := hg.symm
  rw [hg]
  obtain ⟨q, hq⟩ : ∃ q, at_ + g = q := ⟨_, rfl⟩
  rw [hq]
  obtain ⟨pr, hpr⟩ : ∃ pr, Sl.partAt b q = pr := ⟨_, rfl⟩
  rw [hpr]
  have Hpr := Lib.hid hpr
  clear hpr
  obtain ⟨lim, hlim⟩ : ∃ lim, 128 - (q + 7) % 128 = lim := ⟨_, rfl⟩
  -- what is asked ahead of a part
  have Hbl := Lib.hid hbl
  clear hbl hg
  have hqi : (at_ : Int) + (g : Int) = (q : Int) := by omega
  obtain ⟨lf, hlf⟩ : ∃ lf, 128 - at_ % 128 = lf := ⟨_, rfl⟩
  have hlfi : 128 - (at_ : Int) % 128 = (lf : Int) := by omega
  by_cases hgl : lf ≤ 7
  · rw [hlf, if_pos hgl] at hgap
    obtain rfl : lf = g := hgap.symm
    have hlf8 : (lf : Int) < 8 := by omega
    have hl121 : lim = 121 := by omega
    have hlimi : (lim : Int) = 121 := by omega
    have HLim := Lib.hid hlim
    clear hlf hgap hlim hl121
    by_cases h7 : q + 7 ≤ n
    · have h7i : ¬ (n : Int) < (q : Int) + 7 := by omega
      obtain ⟨ad, hB, hsp, hcl0⟩ := reads_cell m r (by omega)
      clear hcl0
      obtain ⟨bb, oo, sp⟩ := ad
      simp only at hsp
      subst hsp hB
      obtain ⟨a0, a1, a2, a3, l1, l0, kind, hd, h4, h5, h6⟩ := seven (b := b) (q := q) (by rw [Hbl.out]; omega)
      have c4 : CellAt S bb (oo + (q + 4)) (.int .u8 (l1.toNat : Int)) := reads_at_cell r (by omega) (q + 4) (by simp [u8s, h4])
      have c5 : CellAt S bb (oo + (q + 5)) (.int .u8 (l0.toNat : Int)) := reads_at_cell r (by omega) (q + 5) (by simp [u8s, h5])
      have c6 : CellAt S bb (oo + (q + 6)) (.int .u8 (kind.toNat : Int)) := reads_at_cell r (by omega) (q + 6) (by simp [u8s, h6])
      have Hd := Lib.hid hd
      clear hd h4 h5 h6
      have h1 := l1.toNat_lt
      have h0 := l0.toNat_lt
      have hk := kind.toNat_lt
      go_enter Tryz.func159, Tryz.ntmps159
      go_wp2_with fail
      go_quiet (fail)
      obtain ⟨nn, hnn⟩ : ∃ nn, 256 * l1.toNat + l0.toNat = nn := ⟨_, rfl⟩
      have hni : 256 * (l1.toNat : Int) + (l0.toNat : Int) = (nn : Int) := by omega
      rw [hni]
      have hnl : nn < 65536 := by omega
      have Hnn := Lib.hid hnn
      clear c4 c5 h1 h0 hnn hni
      have m4 : Mod (w.drewN nq) w0 S := Mod.drewN (m := m) nq
      generalize w.drewN nq = w4 at *
      have Hpa := Lib.hid (partAt_eq Hd.out)
      have HNone : Hid ((lim < nn ∨ n < q + 7 + nn) → Sl.partAt b q = none) := fun hor => by
        have e := Hnn.out
        rw [Hpa.out, show l1.toNat * 256 + l0.toNat = nn by omega, HLim.out, List.length_drop, Hbl.out]
        rcases hor with h | h
        · exact if_pos (.inl ⟨h, by omega⟩)
        · exact if_pos (.inr (.inl (by omega)))
      by_cases hA : lim < nn
      · obtain rfl : none = pr := by rw [← Hpr.out]; exact (HNone.out (.inl hA)).symm
        go_wp2_with fail
        go_ret3
        exact ⟨rfl, m4⟩
      · by_cases hB2 : n < q + 7 + nn
        · obtain rfl : none = pr := by rw [← Hpr.out]; exact (HNone.out (.inr hB2)).symm
          have hB2i : (n : Int) < (q : Int) + 7 + (nn : Int) := by omega
          go_wp2_with fail
          go_ret3
          exact ⟨rfl, m4⟩
        · have hB2i : ¬ (n : Int) < (q : Int) + 7 + (nn : Int) := by omega
          obtain ⟨piece, hpiece⟩ : ∃ piece, (b.drop (q + 7)).take nn = piece := ⟨_, rfl⟩
          have hpl : piece.length = nn := by rw [← hpiece, List.length_take, List.length_drop, Hbl.out]; omega
          obtain ⟨part, hpart⟩ : ∃ part, (b.drop q).take (7 + nn) = part := ⟨_, rfl⟩
          have Hsame : Hid (partB kind piece = part ↔ (crcOf kind piece).toNat = four4 a0 a1 a2 a3) := by
            have h := part_same Hd.out Hnn.out (by rw [hpiece]; exact hpl)
            rw [hpiece, hpart] at h
            exact h
          have rq : Reads S (some ⟨bb, oo + q, none⟩) (7 + nn) (u8s part) := by
            have h := r.sub q (7 + nn) (by omega)
            rw [u8s_part, hpart, add_off _ _ rfl] at h
            exact h
          have rp : Reads S (some ⟨bb, oo + (q + 7), none⟩) nn (u8s piece) := by
            have h := r.sub (q + 7) nn (by omega)
            rw [u8s_part, hpiece, add_off _ _ rfl] at h
            exact h
          have Hpiece := Lib.hid hpiece
          have Hpl := Lib.hid hpl
          have Hsub : Hid (q + 7 + nn - (q + 7) = nn) := (by omega : q + 7 + nn - (q + 7) = nn)
          clear hpiece hpart hpl
          by_cases hcq : c = q + 7
          · have rp2 : Reads S (some ⟨bb, oo, none⟩) nn (u8s piece) := by
              have e0 : nn = 0 := by omega
              have e1 : piece = [] := List.eq_nil_of_length_eq_zero (by rw [Hpl.out]; exact e0)
              rw [e0, e1]; exact Reads.none_of _
            subst hcq
            clear rp
            have rp := rp2
            clear rp2
            go_wp2_with (at_builtin; refine wpList_mod (w0 := w0) ?_; intro mw; have mx := row_none (e := 5) mw; refine wpList_append (m := mx) (v := .slice none 0 0) (A := some ⟨bb, oo, none⟩) (k := nn) (news := u8s piece) (r := reads_lift inferInstance rp) rfl rfl rfl (by show Value.slice _ (q + 7 + nn - (q + 7)) _ = _; rw [Hsub.out]) (one_u8s _) (by unfold maxLen; omega) (by omega) ?_; clear mw mx; intro A5 c5 w5 m5)
            simp only [Nat.zero_add, List.nil_append] at m5
            obtain ⟨SS, hSS, mSS⟩ : ∃ SS, SS = _ ∧ Mod w5 w0 SS := ⟨_, rfl, m5⟩
            have rA : Reads SS A5 nn (u8s piece) := by rw [hSS]; infer_instance
            have rB : Reads SS (some ⟨bb, oo + q, none⟩) (q + 7 + nn - q) (u8s part) := by rw [show q + 7 + nn - q = 7 + nn by omega, hSS]; exact reads_lift inferInstance rq
            have HSS := Lib.hid hSS
            clear hSS m5 rq rp m4 m r c6
            have hs1 : IntKind.i64.wrap ((q : Int) + 7) = (q : Int) + 7 := IntWalk.i64_in _ (by omega)
            have hs2 : IntKind.i64.wrap ((q : Int) + 7 + (nn : Int)) = (q : Int) + 7 + (nn : Int) := IntWalk.i64_in _ (by omega)
            have hs3 : (0 : Int) ≤ (q : Int) + 7 + (nn : Int) := by omega
            have hs4 : (q : Int) ≤ (q : Int) + 7 + (nn : Int) := by omega
            have hs5 : ((q : Int) + 7 + (nn : Int)).toNat = q + 7 + nn := by omega
            have hs6 : (q : Int) + 7 + (nn : Int) ≤ (q : Int) + 7 := by omega
            have hs7 : (0 : Int) ≤ (q : Int) := by omega
            obtain ⟨pb, hpb⟩ : ∃ pb, partB kind piece = pb := ⟨_, rfl⟩
            rw [hpb] at Hsame
            have hP := r6part_spec kind A5 nn c5 piece
            rw [hpb] at hP
            have HP := Lib.hid hP
            clear hP hpb
            have Hres : Hid (pb = part → pr = some (kind, piece, q + 7 + nn)) := fun hC => by
              have e := Hnn.out
              have hs := Hsame.out.1 hC
              rw [← Hpr.out, Hpa.out, show l1.toNat * 256 + l0.toNat = nn by omega, HLim.out, List.length_drop, Hbl.out, Hpiece.out, if_neg]
              simp only [not_or, not_and]
              exact ⟨fun h => absurd h hA, by omega, by simp [hs]⟩
            have Hno : Hid (pb ≠ part → pr = none) := fun hC => by
              have e := Hnn.out
              have hs := fun h => hC (Hsame.out.2 h)
              rw [← Hpr.out, Hpa.out, show l1.toNat * 256 + l0.toNat = nn by omega, HLim.out, List.length_drop, Hbl.out, Hpiece.out]
              exact if_pos (.inr (.inr hs))
            clear Hpr Hsame Hpa HNone Hd HLim Hpiece Hnn
            by_cases hC : pb = part
            · subst hC
              obtain rfl := (Hres.out rfl).symm
              go_region_with ((go_at_call 162; refine (HP.out _ w0 SS inferInstance rA (by omega)).mono ?_; rintro e w6 ⟨A6, c6, rfl, m6⟩))
              all_goals
                clear hs1 hs2 hs3 hs4 hs5 hs6 hs7
                rw [HSS.out] at m6
                go_wp2_with fail
                go_ret3
                refine ⟨A5, c5, ?_, ?_⟩
                · show _ = Ending.returned (.tuple #[.int .u8 (kind.toNat : Int), .slice A5 piece.length c5, .int .i64 ((q + 7 + nn - at_ : Nat) : Int)])
                  rw [Hpl.out, show ((q + 7 + nn - at_ : Nat) : Int) = (lf : Int) + 7 + (nn : Int) by omega]
                  (try rfl)
                · rw [Hpl.out]
                  exact Mod.keep m6
            · have hne1 : (pb == part) = false := beq_eq_false_iff_ne.2 hC
              have hne2 : (pb != part) = true := bne_iff_ne.2 hC
              obtain rfl := (Hno.out hC).symm
              go_region_with ((go_at_call 162; refine (HP.out _ w0 SS inferInstance rA (by omega)).mono ?_; rintro e w6 ⟨A6, c6, rfl, m6⟩))
              all_goals
                clear hs1 hs2 hs3 hs4 hs5 hs6 hs7
                rw [HSS.out] at m6
                go_wp2_with fail
                go_ret3
                exact ⟨rfl, Mod.keep m6⟩
          · go_wp2_with (at_builtin; refine wpList_mod (w0 := w0) ?_; intro mw; have mx := row_none (e := 5) mw; refine wpList_append (m := mx) (v := .slice none 0 0) (A := some ⟨bb, oo + (q + 7), none⟩) (k := nn) (news := u8s piece) (r := reads_lift inferInstance rp) rfl rfl rfl (by show Value.slice _ (q + 7 + nn - (q + 7)) _ = _; rw [Hsub.out]) (one_u8s _) (by unfold maxLen; omega) (by omega) ?_; clear mw mx; intro A5 c5 w5 m5)
            simp only [Nat.zero_add, List.nil_append] at m5
            obtain ⟨SS, hSS, mSS⟩ : ∃ SS, SS = _ ∧ Mod w5 w0 SS := ⟨_, rfl, m5⟩
            have rA : Reads SS A5 nn (u8s piece) := by rw [hSS]; infer_instance
            have rB : Reads SS (some ⟨bb, oo + q, none⟩) (q + 7 + nn - q) (u8s part) := by rw [show q + 7 + nn - q = 7 + nn by omega, hSS]; exact reads_lift inferInstance rq
            have HSS := Lib.hid hSS
            clear hSS m5 rq rp m4 m r c6
            have hs1 : IntKind.i64.wrap ((q : Int) + 7) = (q : Int) + 7 := IntWalk.i64_in _ (by omega)
            have hs2 : IntKind.i64.wrap ((q : Int) + 7 + (nn : Int)) = (q : Int) + 7 + (nn : Int) := IntWalk.i64_in _ (by omega)
            have hs3 : (0 : Int) ≤ (q : Int) + 7 + (nn : Int) := by omega
            have hs4 : (q : Int) ≤ (q : Int) + 7 + (nn : Int) := by omega
            have hs5 : ((q : Int) + 7 + (nn : Int)).toNat = q + 7 + nn := by omega
            have hs6 : (q : Int) + 7 + (nn : Int) ≤ (c : Int) := by omega
            have hs7 : (0 : Int) ≤ (q : Int) := by omega
            obtain ⟨pb, hpb⟩ : ∃ pb, partB kind piece = pb := ⟨_, rfl⟩
            rw [hpb] at Hsame
            have hP := r6part_spec kind A5 nn c5 piece
            rw [hpb] at hP
            have HP := Lib.hid hP
            clear hP hpb
            have Hres : Hid (pb = part → pr = some (kind, piece, q + 7 + nn)) := fun hC => by
              have e := Hnn.out
              have hs := Hsame.out.1 hC
              rw [← Hpr.out, Hpa.out, show l1.toNat * 256 + l0.toNat = nn by omega, HLim.out, List.length_drop, Hbl.out, Hpiece.out, if_neg]
              simp only [not_or, not_and]
              exact ⟨fun h => absurd h hA, by omega, by simp [hs]⟩
            have Hno : Hid (pb ≠ part → pr = none) := fun hC => by
              have e := Hnn.out
              have hs := fun h => hC (Hsame.out.2 h)
              rw [← Hpr.out, Hpa.out, show l1.toNat * 256 + l0.toNat = nn by omega, HLim.out, List.length_drop, Hbl.out, Hpiece.out]
              exact if_pos (.inr (.inr hs))
            clear Hpr Hsame Hpa HNone Hd HLim Hpiece Hnn
            by_cases hC : pb = part
            · subst hC
              obtain rfl := (Hres.out rfl).symm
              go_region_with ((go_at_call 162; refine (HP.out _ w0 SS inferInstance rA (by omega)).mono ?_; rintro e w6 ⟨A6, c6, rfl, m6⟩))
              all_goals
                clear hs1 hs2 hs3 hs4 hs5 hs6 hs7
                rw [HSS.out] at m6
                go_wp2_with fail
                go_ret3
                refine ⟨A5, c5, ?_, ?_⟩
                · show _ = Ending.returned (.tuple #[.int .u8 (kind.toNat : Int), .slice A5 piece.length c5, .int .i64 ((q + 7 + nn - at_ : Nat) : Int)])
                  rw [Hpl.out, show ((q + 7 + nn - at_ : Nat) : Int) = (lf : Int) + 7 + (nn : Int) by omega]
                  (try rfl)
                · rw [Hpl.out]
                  exact Mod.keep m6
            · have hne1 : (pb == part) = false := beq_eq_false_iff_ne.2 hC
              have hne2 : (pb != part) = true := bne_iff_ne.2 hC
              obtain rfl := (Hno.out hC).symm
              go_region_with ((go_at_call 162; refine (HP.out _ w0 SS inferInstance rA (by omega)).mono ?_; rintro e w6 ⟨A6, c6, rfl, m6⟩))
              all_goals
                clear hs1 hs2 hs3 hs4 hs5 hs6 hs7
                rw [HSS.out] at m6
                go_wp2_with fail
                go_ret3
                exact ⟨rfl, Mod.keep m6⟩
    · have h7i : (n : Int) < (q : Int) + 7 := by omega
      have HN : Hid (Sl.partAt b q = none) := partAt_few (by rw [Hbl.out]; omega)
      obtain rfl : none = pr := by rw [← Hpr.out]; exact HN.out.symm
      go_enter Tryz.func159, Tryz.ntmps159
      go_wp2_with fail
      go_ret3
      exact ⟨rfl, m⟩
  · rw [hlf, if_neg hgl] at hgap
    subst hgap
    rw [Nat.add_zero] at hq
    subst hq
    have hlf8 : ¬ (lf : Int) < 8 := by omega
    have hl121 : lim = lf - 7 := by omega
    have hlimi : (lf : Int) - 7 = (lim : Int) := by omega
    have hlim1 : 1 ≤ lim := by omega
    have hlim2 : lim ≤ 121 := by omega
    have HLim := Lib.hid hlim
    clear hlf hlim hqi hgl hl121
    by_cases h7 : at_ + 7 ≤ n
    · have h7i : ¬ (n : Int) < (at_ : Int) + 7 := by omega
      obtain ⟨ad, hB, hsp, hcl0⟩ := reads_cell m r (by omega)
      clear hcl0
      obtain ⟨bb, oo, sp⟩ := ad
      simp only at hsp
      subst hsp hB
      obtain ⟨a0, a1, a2, a3, l1, l0, kind, hd, h4, h5, h6⟩ := seven (b := b) (q := at_) (by rw [Hbl.out]; omega)
      have c4 : CellAt S bb (oo + (at_ + 4)) (.int .u8 (l1.toNat : Int)) := reads_at_cell r (by omega) (at_ + 4) (by simp [u8s, h4])
      have c5 : CellAt S bb (oo + (at_ + 5)) (.int .u8 (l0.toNat : Int)) := reads_at_cell r (by omega) (at_ + 5) (by simp [u8s, h5])
      have c6 : CellAt S bb (oo + (at_ + 6)) (.int .u8 (kind.toNat : Int)) := reads_at_cell r (by omega) (at_ + 6) (by simp [u8s, h6])
      have Hd := Lib.hid hd
      clear hd h4 h5 h6
      have h1 := l1.toNat_lt
      have h0 := l0.toNat_lt
      have hk := kind.toNat_lt
      go_enter Tryz.func159, Tryz.ntmps159
      go_wp2_with fail
      go_quiet (fail)
      obtain ⟨nn, hnn⟩ : ∃ nn, 256 * l1.toNat + l0.toNat = nn := ⟨_, rfl⟩
      have hni : 256 * (l1.toNat : Int) + (l0.toNat : Int) = (nn : Int) := by omega
      rw [hni]
      have hnl : nn < 65536 := by omega
      have Hnn := Lib.hid hnn
      clear c4 c5 h1 h0 hnn hni
      have m4 : Mod (w.drewN nq) w0 S := Mod.drewN (m := m) nq
      generalize w.drewN nq = w4 at *
      have Hpa := Lib.hid (partAt_eq Hd.out)
      have HNone : Hid ((lim < nn ∨ n < at_ + 7 + nn) → Sl.partAt b at_ = none) := fun hor => by
        have e := Hnn.out
        rw [Hpa.out, show l1.toNat * 256 + l0.toNat = nn by omega, HLim.out, List.length_drop, Hbl.out]
        rcases hor with h | h
        · exact if_pos (.inl ⟨h, by omega⟩)
        · exact if_pos (.inr (.inl (by omega)))
      by_cases hA : lim < nn
      · obtain rfl : none = pr := by rw [← Hpr.out]; exact (HNone.out (.inl hA)).symm
        go_wp2_with fail
        go_ret3
        exact ⟨rfl, m4⟩
      · by_cases hB2 : n < at_ + 7 + nn
        · obtain rfl : none = pr := by rw [← Hpr.out]; exact (HNone.out (.inr hB2)).symm
          have hB2i : (n : Int) < (at_ : Int) + 7 + (nn : Int) := by omega
          go_wp2_with fail
          go_ret3
          exact ⟨rfl, m4⟩
        · have hB2i : ¬ (n : Int) < (at_ : Int) + 7 + (nn : Int) := by omega
          obtain ⟨piece, hpiece⟩ : ∃ piece, (b.drop (at_ + 7)).take nn = piece := ⟨_, rfl⟩
          have hpl : piece.length = nn := by rw [← hpiece, List.length_take, List.length_drop, Hbl.out]; omega
          obtain ⟨part, hpart⟩ : ∃ part, (b.drop at_).take (7 + nn) = part := ⟨_, rfl⟩
          have Hsame : Hid (partB kind piece = part ↔ (crcOf kind piece).toNat = four4 a0 a1 a2 a3) := by
            have h := part_same Hd.out Hnn.out (by rw [hpiece]; exact hpl)
            rw [hpiece, hpart] at h
            exact h
          have rq : Reads S (some ⟨bb, oo + at_, none⟩) (7 + nn) (u8s part) := by
            have h := r.sub at_ (7 + nn) (by omega)
            rw [u8s_part, hpart, add_off _ _ rfl] at h
            exact h
          have rp : Reads S (some ⟨bb, oo + (at_ + 7), none⟩) nn (u8s piece) := by
            have h := r.sub (at_ + 7) nn (by omega)
            rw [u8s_part, hpiece, add_off _ _ rfl] at h
            exact h
          have Hpiece := Lib.hid hpiece
          have Hpl := Lib.hid hpl
          have Hsub : Hid (at_ + 7 + nn - (at_ + 7) = nn) := (by omega : at_ + 7 + nn - (at_ + 7) = nn)
          clear hpiece hpart hpl
          by_cases hcq : c = at_ + 7
          · have rp2 : Reads S (some ⟨bb, oo, none⟩) nn (u8s piece) := by
              have e0 : nn = 0 := by omega
              have e1 : piece = [] := List.eq_nil_of_length_eq_zero (by rw [Hpl.out]; exact e0)
              rw [e0, e1]; exact Reads.none_of _
            subst hcq
            clear rp
            have rp := rp2
            clear rp2
            go_wp2_with (at_builtin; refine wpList_mod (w0 := w0) ?_; intro mw; have mx := row_none (e := 5) mw; refine wpList_append (m := mx) (v := .slice none 0 0) (A := some ⟨bb, oo, none⟩) (k := nn) (news := u8s piece) (r := reads_lift inferInstance rp) rfl rfl rfl (by show Value.slice _ (at_ + 7 + nn - (at_ + 7)) _ = _; rw [Hsub.out]) (one_u8s _) (by unfold maxLen; omega) (by omega) ?_; clear mw mx; intro A5 c5 w5 m5)
            simp only [Nat.zero_add, List.nil_append] at m5
            obtain ⟨SS, hSS, mSS⟩ : ∃ SS, SS = _ ∧ Mod w5 w0 SS := ⟨_, rfl, m5⟩
            have rA : Reads SS A5 nn (u8s piece) := by rw [hSS]; infer_instance
            have rB : Reads SS (some ⟨bb, oo + at_, none⟩) (at_ + 7 + nn - at_) (u8s part) := by rw [show at_ + 7 + nn - at_ = 7 + nn by omega, hSS]; exact reads_lift inferInstance rq
            have HSS := Lib.hid hSS
            clear hSS m5 rq rp m4 m r c6
            have hs1 : IntKind.i64.wrap ((at_ : Int) + 7) = (at_ : Int) + 7 := IntWalk.i64_in _ (by omega)
            have hs2 : IntKind.i64.wrap ((at_ : Int) + 7 + (nn : Int)) = (at_ : Int) + 7 + (nn : Int) := IntWalk.i64_in _ (by omega)
            have hs3 : (0 : Int) ≤ (at_ : Int) + 7 + (nn : Int) := by omega
            have hs4 : (at_ : Int) ≤ (at_ : Int) + 7 + (nn : Int) := by omega
            have hs5 : ((at_ : Int) + 7 + (nn : Int)).toNat = at_ + 7 + nn := by omega
            have hs6 : (at_ : Int) + 7 + (nn : Int) ≤ (at_ : Int) + 7 := by omega
            have hs7 : (0 : Int) ≤ (at_ : Int) := by omega
            obtain ⟨pb, hpb⟩ : ∃ pb, partB kind piece = pb := ⟨_, rfl⟩
            rw [hpb] at Hsame
            have hP := r6part_spec kind A5 nn c5 piece
            rw [hpb] at hP
            have HP := Lib.hid hP
            clear hP hpb
            have Hres : Hid (pb = part → pr = some (kind, piece, at_ + 7 + nn)) := fun hC => by
              have e := Hnn.out
              have hs := Hsame.out.1 hC
              rw [← Hpr.out, Hpa.out, show l1.toNat * 256 + l0.toNat = nn by omega, HLim.out, List.length_drop, Hbl.out, Hpiece.out, if_neg]
              simp only [not_or, not_and]
              exact ⟨fun h => absurd h hA, by omega, by simp [hs]⟩
            have Hno : Hid (pb ≠ part → pr = none) := fun hC => by
              have e := Hnn.out
              have hs := fun h => hC (Hsame.out.2 h)
              rw [← Hpr.out, Hpa.out, show l1.toNat * 256 + l0.toNat = nn by omega, HLim.out, List.length_drop, Hbl.out, Hpiece.out]
              exact if_pos (.inr (.inr hs))
            clear Hpr Hsame Hpa HNone Hd HLim Hpiece Hnn
            by_cases hC : pb = part
            · subst hC
              obtain rfl := (Hres.out rfl).symm
              go_region_with ((go_at_call 162; refine (HP.out _ w0 SS inferInstance rA (by omega)).mono ?_; rintro e w6 ⟨A6, c6, rfl, m6⟩))
              all_goals
                clear hs1 hs2 hs3 hs4 hs5 hs6 hs7
                rw [HSS.out] at m6
                go_wp2_with fail
                go_ret3
                refine ⟨A5, c5, ?_, ?_⟩
                · show _ = Ending.returned (.tuple #[.int .u8 (kind.toNat : Int), .slice A5 piece.length c5, .int .i64 ((at_ + 7 + nn - at_ : Nat) : Int)])
                  rw [Hpl.out, show ((at_ + 7 + nn - at_ : Nat) : Int) = 7 + (nn : Int) by omega]
                  (try rfl)
                · rw [Hpl.out]
                  exact Mod.keep m6
            · have hne1 : (pb == part) = false := beq_eq_false_iff_ne.2 hC
              have hne2 : (pb != part) = true := bne_iff_ne.2 hC
              obtain rfl := (Hno.out hC).symm
              go_region_with ((go_at_call 162; refine (HP.out _ w0 SS inferInstance rA (by omega)).mono ?_; rintro e w6 ⟨A6, c6, rfl, m6⟩))
              all_goals
                clear hs1 hs2 hs3 hs4 hs5 hs6 hs7
                rw [HSS.out] at m6
                go_wp2_with fail
                go_ret3
                exact ⟨rfl, Mod.keep m6⟩
          · go_wp2_with (at_builtin; refine wpList_mod (w0 := w0) ?_; intro mw; have mx := row_none (e := 5) mw; refine wpList_append (m := mx) (v := .slice none 0 0) (A := some ⟨bb, oo + (at_ + 7), none⟩) (k := nn) (news := u8s piece) (r := reads_lift inferInstance rp) rfl rfl rfl (by show Value.slice _ (at_ + 7 + nn - (at_ + 7)) _ = _; rw [Hsub.out]) (one_u8s _) (by unfold maxLen; omega) (by omega) ?_; clear mw mx; intro A5 c5 w5 m5)
            simp only [Nat.zero_add, List.nil_append] at m5
            obtain ⟨SS, hSS, mSS⟩ : ∃ SS, SS = _ ∧ Mod w5 w0 SS := ⟨_, rfl, m5⟩
            have rA : Reads SS A5 nn (u8s piece) := by rw [hSS]; infer_instance
            have rB : Reads SS (some ⟨bb, oo + at_, none⟩) (at_ + 7 + nn - at_) (u8s part) := by rw [show at_ + 7 + nn - at_ = 7 + nn by omega, hSS]; exact reads_lift inferInstance rq
            have HSS := Lib.hid hSS
            clear hSS m5 rq rp m4 m r c6
            have hs1 : IntKind.i64.wrap ((at_ : Int) + 7) = (at_ : Int) + 7 := IntWalk.i64_in _ (by omega)
            have hs2 : IntKind.i64.wrap ((at_ : Int) + 7 + (nn : Int)) = (at_ : Int) + 7 + (nn : Int) := IntWalk.i64_in _ (by omega)
            have hs3 : (0 : Int) ≤ (at_ : Int) + 7 + (nn : Int) := by omega
            have hs4 : (at_ : Int) ≤ (at_ : Int) + 7 + (nn : Int) := by omega
            have hs5 : ((at_ : Int) + 7 + (nn : Int)).toNat = at_ + 7 + nn := by omega
            have hs6 : (at_ : Int) + 7 + (nn : Int) ≤ (c : Int) := by omega
            have hs7 : (0 : Int) ≤ (at_ : Int) := by omega
            obtain ⟨pb, hpb⟩ : ∃ pb, partB kind piece = pb := ⟨_, rfl⟩
            rw [hpb] at Hsame
            have hP := r6part_spec kind A5 nn c5 piece
            rw [hpb] at hP
            have HP := Lib.hid hP
            clear hP hpb
            have Hres : Hid (pb = part → pr = some (kind, piece, at_ + 7 + nn)) := fun hC => by
              have e := Hnn.out
              have hs := Hsame.out.1 hC
              rw [← Hpr.out, Hpa.out, show l1.toNat * 256 + l0.toNat = nn by omega, HLim.out, List.length_drop, Hbl.out, Hpiece.out, if_neg]
              simp only [not_or, not_and]
              exact ⟨fun h => absurd h hA, by omega, by simp [hs]⟩
            have Hno : Hid (pb ≠ part → pr = none) := fun hC => by
              have e := Hnn.out
              have hs := fun h => hC (Hsame.out.2 h)
              rw [← Hpr.out, Hpa.out, show l1.toNat * 256 + l0.toNat = nn by omega, HLim.out, List.length_drop, Hbl.out, Hpiece.out]
              exact if_pos (.inr (.inr hs))
            clear Hpr Hsame Hpa HNone Hd HLim Hpiece Hnn
            by_cases hC : pb = part
            · subst hC
              obtain rfl := (Hres.out rfl).symm
              go_region_with ((go_at_call 162; refine (HP.out _ w0 SS inferInstance rA (by omega)).mono ?_; rintro e w6 ⟨A6, c6, rfl, m6⟩))
              all_goals
                clear hs1 hs2 hs3 hs4 hs5 hs6 hs7
                rw [HSS.out] at m6
                go_wp2_with fail
                go_ret3
                refine ⟨A5, c5, ?_, ?_⟩
                · show _ = Ending.returned (.tuple #[.int .u8 (kind.toNat : Int), .slice A5 piece.length c5, .int .i64 ((at_ + 7 + nn - at_ : Nat) : Int)])
                  rw [Hpl.out, show ((at_ + 7 + nn - at_ : Nat) : Int) = 7 + (nn : Int) by omega]
                  (try rfl)
                · rw [Hpl.out]
                  exact Mod.keep m6
            · have hne1 : (pb == part) = false := beq_eq_false_iff_ne.2 hC
              have hne2 : (pb != part) = true := bne_iff_ne.2 hC
              obtain rfl := (Hno.out hC).symm
              go_region_with ((go_at_call 162; refine (HP.out _ w0 SS inferInstance rA (by omega)).mono ?_; rintro e w6 ⟨A6, c6, rfl, m6⟩))
              all_goals
                clear hs1 hs2 hs3 hs4 hs5 hs6 hs7
                rw [HSS.out] at m6
                go_wp2_with fail
                go_ret3
                exact ⟨rfl, Mod.keep m6⟩
    · have h7i : (n : Int) < (at_ : Int) + 7 := by omega
      have HN : Hid (Sl.partAt b at_ = none) := partAt_few (by rw [Hbl.out]; omega)
      obtain rfl : none = pr := by rw [← Hpr.out]; exact HN.out.symm
      go_enter Tryz.func159, Tryz.ntmps159
      go_wp2_with fail
      go_ret3
      exact ⟨rfl, m⟩
end Go.Proofs.YtcakdaadbpimaaaGreatDoor
