/- The walk of FilesTwice: it returns true and changes nothing that was there; no condition. -/
import Derived.Test.YtabekogiaobnfaaDoorFilesSureWalk
namespace Go.Proofs.YtabekogiaobnfaaDoor
open Go.RowKit Go.Sl Go.Maps
attribute [local go_sem] cell_of frozen_of zero_names conv_sb
instance rowT_texts2 : RowT Tryd.prog 63 9 16 := ⟨by kernel_rfl, by kernel_rfl⟩
/-- What a failure leaves, failed again, is the same. -/
theorem LeftOf.again {D Dc D2 : DiskSt} {keep k2 : Nat} {b b2 : Bool} (h : LeftOf D keep b Dc) (hok : DiskOk D) (h2 : LeftOf Dc k2 b2 D2) {s : ByteArray} (hs : s ∈ Dc.now.map (·.1)) : allOf D2 s = allOf Dc s := by
  have hn : nameOk s = true := by
    obtain ⟨q, hq, rfl⟩ := List.mem_map.1 hs
    exact h.ok.named q hq
  obtain ⟨q, hq, rfl⟩ := List.mem_map.1 (h.names.subset hs)
  have hin : (fget D.files q.2).isSome = true := by
    unfold namesLeft at hq
    cases b
    · exact hok.sure q hq
    · exact hok.now q hq
  obtain ⟨f, hf⟩ := Option.isSome_iff_exists.1 hin
  have hup := hok.upto _ (mem_of_fget _ _ _ hf)
  obtain ⟨g', F1⟩ := h.fileIn (f := f) hq hf
  obtain ⟨g2, F2⟩ := h2.fileIn (by rw [namesLeft_same h.both]; exact mem_of_mget F1.name) F1.file
  rw [kept_kept _ _ _ hup] at F2
  rw [F2.all hn, F1.all hn]
theorem LeftOf.list_again {D Dc D2 : DiskSt} {keep k2 : Nat} {b b2 : Bool} (h : LeftOf D keep b Dc) (h2 : LeftOf Dc k2 b2 D2) : listOf D2 = listOf Dc := by
  rw [h2.list, namesLeft_same h.both]; rfl
theorem front2 {w w0 : World} {S F1 F2 : Asn} {V1 V2 : Type} (p1 : V1 → Asn) (p2 : V2 → Asn) {v1 : V1} {v2 : V2} (m : Mod w w0 S) [t1 : Take S p1 v1 F1] [t2 : Take F1 p2 v2 F2] : Mod w w0 (p1 v1 * (p2 v2 * F2)) := by
  rw [t1.eq, t2.eq] at m; exact m
def namesOf (D : DiskSt) : List ByteArray := (listOf D).map fun l => ⟨l.toArray⟩
theorem namesOf_mem {D : DiskSt} {s : ByteArray} (h : s ∈ namesOf D) : s ∈ D.now.map (·.1) := by
  obtain ⟨l, hl, rfl⟩ := List.mem_map.1 h
  unfold listOf at hl
  rw [List.mem_mergeSort] at hl
  obtain ⟨q, hq, rfl⟩ := List.mem_map.1 hl
  exact List.mem_map_of_mem (f := (·.1)) hq
theorem namesOf_length (D : DiskSt) : (namesOf D).length = D.now.length := by unfold namesOf; rw [List.length_map, length_listOf]
theorem list_names (p : Nat) (D : DiskSt) (xs : List ByteArray) (N : Nat) (hx : namesOf D = xs) (hN : xs.length = N) (w w0 : World) (S F : Asn) (m : Mod w w0 S) (t : Take S (diskA p) D F) :
    Calls Tryd.prog 40 #[.pointer (some ⟨p, 0, none⟩)] w fun e w' => ∃ B c, e = .returned (.slice B N c) ∧ Mod w' w0 (rowA 9 1 (.slice B N c) N (texts xs) * S) := by
  have h := list_spec p D w w0 S F m t
  rw [enc_list, show (listOf D).map (fun l => (⟨l.toArray⟩ : ByteArray)) = xs from hx] at h
  have e : (listOf D).length = N := by rw [← hN, ← hx]; unfold namesOf; rw [List.length_map]
  rw [e] at h
  exact h
theorem reads_at {w w0 : World} {S : Asn} {b o n : Nat} {l : List ByteArray} (m : Mod w w0 S) (r : Reads S (some ⟨b, o, none⟩) n (texts l)) {j : Nat} (hj : j < l.length) : w.cell? ⟨b, o + j, none⟩ = some (.string l[j]) := by
  have hl := reads_len m r
  simp only [texts, List.length_map] at hl
  obtain ⟨b', o', e, h⟩ := reads_text m r (by omega)
  injection e with e
  injection e with e1 e2
  subst e1 e2
  exact h j hj
/-- A file's bytes as a text. -/
def textOf (D : DiskSt) (s : ByteArray) : ByteArray := ⟨(allOf D s).toArray⟩
set_option maxRecDepth 6000 in
set_option maxHeartbeats 4000000 in
theorem filesTwice_run (A1 : Option Addr) (n1 c1 : Nat) (l : List ActV) (A2 : Option Addr) (n2 c2 : Nat) (more : List ActV) (keep : Nat) (w w0 : World) (S : Asn) [m : Mod w w0 S] (r1 : ReadsActs S A1 n1 l) (hn1 : n1 ≤ 9223372036854775807) (r2 : ReadsActs S A2 n2 more) (hn2 : n2 ≤ 9223372036854775807) (hk : keep < 256) :
    Calls Tryd.prog 17 #[.slice A1 n1 c1, .slice A2 n2 c2, .int .u8 (keep : Int)] w fun e w' => e = .returned (.bool true) ∧ Mod w' w0 S := by
  by_cases hgr : 40000 < weight l ∨ 200 < n1
  · go_enter Tryd.func17, Tryd.ntmps17
    go_wp2_with first
      | (go_at_call 33; refine (alive5_spec _ w0 _ inferInstance).mono ?_; rintro e w1 ⟨rfl, _m1⟩)
      | (go_at_call 41; refine (great_spec A1 n1 c1 l _ w0 _ _m1 (r1.lift inferInstance) hn1).mono ?_; rw [decide_eq_true hgr]; rintro e w2 ⟨rfl, _m2⟩)
    go_ret
    exact ⟨rfl, Mod.sub S⟩
  by_cases hgr2 : 40000 < weight more ∨ 200 < n2
  · have Hgr := Lib.hid hgr
    clear hgr
    go_enter Tryd.func17, Tryd.ntmps17
    go_wp2_with first
      | (go_at_call 33; refine (alive5_spec _ w0 _ inferInstance).mono ?_; rintro e w1 ⟨rfl, _m1⟩)
      | (go_at_call_of 41 (Value.slice A1 n1 c1); refine (great_spec A1 n1 c1 l _ w0 _ _m1 (r1.lift inferInstance) hn1).mono ?_; rw [decide_eq_false Hgr.out]; rintro e w2 ⟨rfl, _m2⟩)
    have flag := True.intro
    go_wp2_with first
      | (go_at_call 41; clear flag; refine (great_spec A2 n2 c2 more _ w0 _ _m2 (r2.lift inferInstance) hn2).mono ?_; rw [decide_eq_true hgr2]; rintro e w2 ⟨rfl, _m3⟩)
      | (go_at_call 33; refine (alive5_spec _ w0 _ inferInstance).mono ?_; rintro e w1 ⟨rfl, _m4⟩)
    go_ret
    exact ⟨rfl, Mod.sub S⟩
  · have Hgr := Lib.hid hgr
    have Hgr2 := Lib.hid hgr2
    have hwl : weight l ≤ 40000 := by omega
    clear hgr hgr2
    go_enter Tryd.func17, Tryd.ntmps17
    go_wp2_with first
      | (go_at_call 33; refine (alive5_spec _ w0 _ inferInstance).mono ?_; rintro e w1 ⟨rfl, _m1⟩)
      | (go_at_call_of 41 (Value.slice A1 n1 c1); refine (great_spec A1 n1 c1 l _ w0 _ _m1 (r1.lift inferInstance) hn1).mono ?_; rw [decide_eq_false Hgr.out]; rintro e w2 ⟨rfl, _m2⟩)
    have flag := True.intro
    go_wp2_with first
      | (go_at_call 41; clear flag; refine (great_spec A2 n2 c2 more _ w0 _ _m2 (r2.lift inferInstance) hn2).mono ?_; rw [decide_eq_false Hgr2.out]; rintro e w2 ⟨rfl, _m3⟩)
      | (go_at_call 35; refine (new_ok 1000000 _ w0 _ inferInstance (by omega) (by omega)).mono ?_; rintro e w3 ⟨p, rfl, _m4⟩)
    have flag := True.intro
    go_wp2_with first
      | (go_at_call 42; clear flag; refine (does_spec p (newDisk 1000000) A1 n1 c1 l _ w0 _ _ inferInstance inferInstance (r1.lift inferInstance) hn1).mono ?_; rintro e w4 ⟨rfl, D1, _, _, _m5⟩)
    have ok1 := ok_of _m5 (inferInstance : Take _ (diskA p) D1 _)
    have flag := True.intro
    go_wp2_with first
      | (go_at_call 32; clear flag; refine (fail_left p D1 _ w0 _ _ _m5 inferInstance keep _ (by omega) _ rfl).mono ?_; rintro e w13 ⟨pc, Dc, rfl, hDc, _m6⟩)
    have okc := hDc.ok
    obtain ⟨WS, hWS⟩ : ∃ WS, namesOf D1 = WS := ⟨_, rfl⟩
    obtain ⟨NW, hNW⟩ : ∃ NW, WS.length = NW := ⟨_, rfl⟩
    obtain ⟨XS, hXS⟩ : ∃ XS, namesOf Dc = XS := ⟨_, rfl⟩
    obtain ⟨N, hN⟩ : ∃ N, XS.length = N := ⟨_, rfl⟩
    have hN64 : N ≤ 64 := by rw [← hN, ← hXS, namesOf_length]; exact okc.many
    have hW64 : NW ≤ 64 := by rw [← hNW, ← hWS, namesOf_length]; exact ok1.many
    have HWS := Lib.hid hWS
    have HNW := Lib.hid hNW
    have HXS := Lib.hid hXS
    have HN := Lib.hid hN
    clear hWS hNW hXS hN
    have flag := True.intro
    go_wp2_with first
      | (go_at_call 40; clear flag; refine (list_names p D1 WS NW HWS.out HNW.out _ w0 _ _ _m6 inferInstance).mono ?_; rintro e w14 ⟨BW, cW, rfl, _m7⟩)
    have flag := True.intro
    go_wp2_with first
      | (go_at_call 40; clear flag; refine (list_names pc Dc XS N HXS.out HN.out _ w0 _ _ _m7 inferInstance).mono ?_; rintro e w15 ⟨BX, cX, rfl, _m8⟩)
    obtain ⟨G, m9, rW, rX, rM, sG⟩ : ∃ G, Mod w15 w0 (diskA pc Dc * (diskA p D1 * G)) ∧ Reads G BW NW (texts WS) ∧ Reads G BX N (texts XS) ∧ ReadsActs G A2 n2 more ∧ Sub G S := ⟨_, front2 (diskA pc) (diskA p) _m8, inferInstance, inferInstance, r2.lift inferInstance, inferInstance⟩
    clear _m1 _m2 _m3 _m4 _m5 _m6 _m7 _m8
    have HS : Hid (∀ s ∈ XS, s.size ≤ 16 ∧ s ∈ Dc.now.map (·.1)) := fun s hs => by
      have h1 := namesOf_mem (D := Dc) (by rw [HXS.out]; exact hs)
      obtain ⟨q, hq, rfl⟩ := List.mem_map.1 h1
      exact ⟨named_size (okc.named q hq), h1⟩
    obtain ⟨TS, hTS⟩ : ∃ TS, XS.map (textOf Dc) = TS := ⟨_, rfl⟩
    have HTS := Lib.hid hTS
    clear hTS
    go_loopg [12, 13] N (fun gk tv i wr => ∃ (k : Nat) (A : Option Addr) (cw : Nat), k ≤ N ∧ gk = N - k ∧ i = .int .i64 (k : Int) ∧ tv = .slice A k cw ∧ Mod wr w0 (rowA 9 1 (.slice A k cw) k (texts (TS.take k)) * (diskA pc Dc * (diskA p D1 * G))))
    case atStart => exact ⟨0, none, 0, Nat.zero_le _, rfl, rfl, rfl, row_none m9⟩
    case round =>
      obtain ⟨k, A, cw, hkN, hgk, rfl, rfl, m10⟩ := hrel
      by_cases hlt : k < N
      · obtain ⟨b1, o1, hBX, hc1⟩ := reads_text (B := BX) (n := N) (l := XS) m10 inferInstance (by omega)
        subst hBX
        have hkx : k < XS.length := by rw [HN.out]; exact hlt
        have hx := hc1 k hkx
        have hki : (k : Int) < (N : Int) := by omega
        have hxs := (HS.out XS[k] (List.getElem_mem hkx)).1
        have Hk : Hid (TS.take (k + 1) = TS.take k ++ [textOf Dc XS[k]]) := by
          show _ = _
          rw [← HTS.out, List.take_succ_eq_append_getElem (by simpa using hkx), List.getElem_map]
        clear hc1
        generalize XS[k] = x at *
        go_wp2_with first
          | (at_builtin; (refine wpList_append (v := .slice A k cw) (k := 1) (c := 1) (news := [.string (textOf Dc x)]) (r := reads_blk rfl rfl) rfl rfl inferInstance rfl rfl (by simp [Value.oneCell']) (by unfold maxLen; omega) (by omega) ?_); intro A' c' w17 _m12)
          | (go_at_call 36; refine (all_spec pc Dc x _ w0 _ _ inferInstance inferInstance (by omega)).mono ?_; rintro e w16 ⟨rfl, _m11⟩; rw [show (⟨(allOf Dc x).toArray⟩ : ByteArray) = textOf Dc x from rfl])
        go_roundg (N - (k + 1))
        case measure => omega
        case rel => exact ⟨k + 1, A', c', by omega, rfl, by go_num, rfl, by rw [Hk.out, texts, List.map_append]; exact repack3 (rowQ 9 1 (.slice A' (k + 1) c')) (diskA pc) (diskA p) _m12⟩
      · have hk2 : k = N := by omega
        subst hk2
        have hTSk : TS.take k = TS := by rw [List.take_of_length_le]; rw [← HTS.out, List.length_map, HN.out]; exact Nat.le_refl _
        rw [hTSk] at m10
        have flag := True.intro
        go_wp2_with first
          | (go_at_call 42; clear flag; refine (does_spec p D1 A2 n2 c2 more _ w0 _ _ m10 inferInstance (rM.lift inferInstance) hn2).mono ?_; rintro e w18 ⟨rfl, D2, _, _, _m13⟩)
        have flag := True.intro
        go_wp2_with first
          | (go_at_call 32; clear flag; refine (fail_left pc Dc _ w0 _ _ _m13 inferInstance 0 _ (by omega) _ rfl).mono ?_; rintro e w19 ⟨pb, Db, rfl, hDb, _m14⟩)
        have flag := True.intro
        go_wp2_with first
          | (go_at_call 32; clear flag; refine (fail_left pc Dc _ w0 _ _ _m14 inferInstance 99 _ (by omega) _ rfl).mono ?_; rintro e w20 ⟨pa, Da, rfl, hDa, _m15⟩)
        have Hnb : Hid (namesOf Db = XS) := by show _ = _; rw [← HXS.out]; unfold namesOf; rw [hDc.list_again hDb]
        have Hna : Hid (namesOf Da = XS) := by show _ = _; rw [← HXS.out]; unfold namesOf; rw [hDc.list_again hDa]
        have Hall : Hid (∀ s ∈ XS, textOf Db s = textOf Dc s ∧ textOf Da s = textOf Dc s) := fun s hs => by
          have h1 := (HS.out s hs).2
          unfold textOf
          rw [hDc.again ok1 hDb h1, hDc.again ok1 hDa h1]
          exact ⟨rfl, rfl⟩
        clear hDb hDa
        have flag := True.intro
        go_wp2_with first
          | (go_at_call 40; clear flag; refine (list_names pb Db XS k Hnb.out HN.out _ w0 _ _ inferInstance inferInstance).mono ?_; rintro e w21 ⟨B1, cc1, rfl, _m21⟩)
        have flag := True.intro
        go_wp2_with first
          | (go_at_call 43; clear flag; refine (sameTexts_spec B1 BX k k cc1 cX XS XS _ w0 _ inferInstance inferInstance inferInstance (by omega) (by omega)).mono ?_; rw [decide_eq_true rfl]; rintro e w22 ⟨rfl, _m22⟩)
        have flag := True.intro
        go_wp2_with first
          | (go_at_call 40; clear flag; refine (list_names pa Da XS k Hna.out HN.out _ w0 _ _ inferInstance inferInstance).mono ?_; rintro e w23 ⟨B2, cc2, rfl, _m23⟩)
        have flag := True.intro
        go_wp2_with first
          | (go_at_call 43; clear flag; refine (sameTexts_spec B2 BX k k cc2 cX XS XS _ w0 _ inferInstance inferInstance inferInstance (by omega) (by omega)).mono ?_; rw [decide_eq_true rfl]; rintro e w24 ⟨rfl, _m24⟩)
        have flag := True.intro
        go_wp2_with first
          | (go_at_call 40; clear flag; refine (list_names pc Dc XS k HXS.out HN.out _ w0 _ _ inferInstance inferInstance).mono ?_; rintro e w25 ⟨B3, cc3, rfl, _m25⟩)
        have flag := True.intro
        go_wp2_with first
          | (go_at_call 43; clear flag; refine (sameTexts_spec B3 BX k k cc3 cX XS XS _ w0 _ inferInstance inferInstance inferInstance (by omega) (by omega)).mono ?_; rw [decide_eq_true rfl]; rintro e w26 ⟨rfl, _m26⟩)
        obtain ⟨SS, hSS, mSS⟩ : ∃ SS, SS = _ ∧ Mod _ w0 SS := ⟨_, rfl, _m26⟩
        obtain ⟨Fa, ta⟩ : ∃ F, Take SS (diskA pa) Da F := ⟨_, by rw [hSS]; infer_instance⟩
        obtain ⟨Fb, tb⟩ : ∃ F, Take SS (diskA pb) Db F := ⟨_, by rw [hSS]; infer_instance⟩
        obtain ⟨Fc, tc⟩ : ∃ F, Take SS (diskA pc) Dc F := ⟨_, by rw [hSS]; infer_instance⟩
        have rX2 : Reads SS BX k (texts XS) := by rw [hSS]; infer_instance
        have rW2 : Reads SS BW NW (texts WS) := by rw [hSS]; infer_instance
        have rT2 : Reads SS A k (texts TS) := by rw [hSS]; infer_instance
        have hsub : Sub SS S := by rw [hSS]; infer_instance
        clear hSS _m13 _m14 _m15 _m21 _m22 _m23 _m24 _m25 _m26 m10 m9 rX rW rM
        go_loopg [18] k (fun gk i wr => ∃ (j : Nat), j ≤ k ∧ gk = k - j ∧ i = .int .i64 (j : Int) ∧ Mod wr w0 SS)
        case atStart => exact ⟨0, Nat.zero_le _, rfl, rfl, mSS⟩
        case round =>
          obtain ⟨j, hj, hgj, rfl, m27⟩ := hrel
          by_cases hlt2 : j < k
          · obtain ⟨b1, o1, hBX, _⟩ := reads_text m27 rX2 (by omega)
            obtain ⟨b2, o2, hA, _⟩ := reads_text m27 rT2 (by omega)
            subst hBX hA
            have hjx : j < XS.length := by rw [HN.out]; exact hlt2
            have hjt : j < TS.length := by rw [← HTS.out, List.length_map]; exact hjx
            have hcx : ∀ s : Held w0 SS, s.world.cell? ⟨b1, o1 + j, none⟩ = some (.string XS[j]) := fun s => reads_at s.mod rX2 hjx
            have hct : ∀ s : Held w0 SS, s.world.cell? ⟨b2, o2 + j, none⟩ = some (.string TS[j]) := fun s => reads_at s.mod rT2 hjt
            have hTj : TS[j] = textOf Dc XS[j] := by
              have : TS[j]? = some (textOf Dc XS[j]) := by rw [← HTS.out, List.getElem?_map, List.getElem?_eq_getElem hjx]; rfl
              rw [List.getElem?_eq_getElem hjt] at this
              injection this
            rw [hTj] at hct
            have hxs := (HS.out XS[j] (List.getElem_mem hjx)).1
            have Hs := Lib.hid (Hall.out XS[j] (List.getElem_mem hjx))
            clear hTj
            generalize XS[j] = x at *
            have HP : Hid (∀ u, Mod u w0 SS → Calls Tryd.prog 36 #[ptr pc, .string x] u fun e w' => e = .returned (.string (textOf Dc x)) ∧ Mod w' w0 SS) := fun u mu => by
              have h := all_spec pc Dc x u w0 SS _ mu tc (by omega)
              rw [show (⟨(allOf Dc x).toArray⟩ : ByteArray) = textOf Dc x from rfl] at h
              exact h
            have HB : Hid (∀ u, Mod u w0 SS → Calls Tryd.prog 36 #[ptr pb, .string x] u fun e w' => e = .returned (.string (textOf Dc x)) ∧ Mod w' w0 SS) := fun u mu => by
              have h := all_spec pb Db x u w0 SS _ mu tb (by omega)
              rw [show (⟨(allOf Db x).toArray⟩ : ByteArray) = textOf Dc x from Hs.out.1] at h
              exact h
            have HA : Hid (∀ u, Mod u w0 SS → Calls Tryd.prog 36 #[ptr pa, .string x] u fun e w' => e = .returned (.string (textOf Dc x)) ∧ Mod w' w0 SS) := fun u mu => by
              have h := all_spec pa Da x u w0 SS _ mu ta (by omega)
              rw [show (⟨(allOf Da x).toArray⟩ : ByteArray) = textOf Dc x from Hs.out.2] at h
              exact h
            have := Held.some m27
            have hji : (j : Int) < (k : Int) := by omega
            go_wp2_with fail
            refine wp_region_mod m27 (by kernel_rfl) (by kernel_rfl) ?_
            repeat (go_big_quiet_step (first
              | (go_at_call_of 36 (ptr pc); refine quiet_call (HP.out _ ?_); exact inferInstance)
              | (go_at_call_of 36 (ptr pb); refine quiet_call (HB.out _ ?_); exact inferInstance)
              | (go_at_call_of 36 (ptr pa); refine quiet_call (HA.out _ ?_); exact inferInstance)))
            refine wpQuiet_nil ?_
            rintro w28 ⟨s, rfl⟩
            have m28 := s.mod
            go_wp2_with fail
            go_roundg (k - (j + 1))
            case measure => omega
            case rel => exact ⟨j + 1, by omega, rfl, by go_num, m28⟩
          · by_cases hev : keep % 2 = 0
            · have hev2 : (keep : Int) % 2 = 0 := by omega
              go_wp2_with fail
              go_ret
              exact ⟨rfl, Mod.sub (m := m27) S⟩
            · have hev2 : (keep : Int) % 2 = 1 := by omega
              have hWX : WS = XS := by
                have hb : ((keep : Int) % 2 == 1) = true := by simp [hev2]
                rw [← HWS.out, ← HXS.out]
                unfold namesOf
                rw [hDc.list, hb]
                rfl
              have hNk : NW = k := by rw [← HNW.out, ← HN.out, hWX]
              subst hWX hNk
              have flag := True.intro
              go_wp2_with first
                | (go_at_call 43; clear flag; refine (sameTexts_spec BW BX NW NW cW cX WS WS _ w0 _ m27 inferInstance inferInstance (by omega) (by omega)).mono ?_; rw [decide_eq_true rfl]; rintro e w29 ⟨rfl, _m29⟩)
              go_ret
              exact ⟨rfl, Mod.sub (m := _m29) S⟩
theorem filesTwice_walk (A1 : Option Addr) (n1 c1 : Nat) (A2 : Option Addr) (n2 c2 : Nat) (k : Int) (w w0 : World) (S : Asn) [m : Mod w w0 S] (hk : (Lit.int .u8 k).wf = true) (hs : (∃ l, ReadsActs S A1 n1 l ∧ n1 ≤ 9223372036854775807) ∧ ∃ l, ReadsActs S A2 n2 l ∧ n2 ≤ 9223372036854775807) :
    Calls Tryd.prog 17 #[.slice A1 n1 c1, .slice A2 n2 c2, .int .u8 k] w fun e w' => e = .returned (.bool true) ∧ Mod w' w0 S := by
  obtain ⟨j, rfl, hj⟩ := wf_u8 hk
  obtain ⟨⟨l, h1, h2⟩, l2, h3, h4⟩ := hs
  exact filesTwice_run A1 n1 c1 l A2 n2 c2 l2 j w w0 S h1 h2 h3 h4 hj
end Go.Proofs.YtabekogiaobnfaaDoor
