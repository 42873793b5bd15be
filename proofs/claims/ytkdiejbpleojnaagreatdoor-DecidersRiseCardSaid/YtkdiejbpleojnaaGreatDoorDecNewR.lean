/- The walk of deciders.New on a decider's disk: a contract over the small separation logic; the conditions are in the theorem. -/
import Derived.Test.YtkdiejbpleojnaaGreatDoorDecBack
namespace Go.Proofs.YtkdiejbpleojnaaGreatDoor
open Go.RowKit Go.Sl
attribute [local go_sem] cell_of cellAt_of frozen_of zero_names DecV.at0 DecV.at1 DecV.at2 DecV.at3 DecV.at4 DecV.at5 DecV.at6 DecV.at7 DecV.at8 DecV.at9 DecV.at10 DecV.at11 DecV.at12 DecV.at13 DecV.at14 DecV.at15 DecV.at16 DecV.at17 DecV.at18 DecV.at19 DecV.at20 DecV.at21 DecV.at22 DecV.at23 DecV.at24 DecV.at25 DecV.at26 DecV.at27 DecV.at28 DecV.at29 DecV.at30 DecV.at31
theorem DecOk.list {v : DecV} {D : DiskSt} {g : Nat} {ks : List Kn} {b : List UInt8} (h : DecOk v D g ks b) : listOf D = [v.name.data.toList] := by unfold listOf; rw [h.now]; simp
theorem DecOk.noX {v : DecV} {D : DiskSt} {g : Nat} {ks : List Kn} {b : List UInt8} (h : DecOk v D g ks b) : mget D.now ⟨#[120]⟩ = none := by
  rw [h.now]
  rcases h.name with e | e <;> rw [e] <;> exact mget_ne _ (by decide)
theorem _root_.Go.Sl.DecV.set2 (v : DecV) (s : ByteArray) : v.cells.setIfInBounds 2 (.string s) = ({ v with name := s } : DecV).cells := rfl
/-- What New leaves on a disk with records. -/
def NewRSays (p : Nat) (k : Kn) (F : Asn) (w0 : World) (e : Ending) (w' : World) : Prop :=
  ∃ (x : Nat) (nm : ByteArray) (j g : Nat) (D : DiskSt) (b : List UInt8), e = .returned (.tuple #[ptr x, .int .i64 0]) ∧ DecOk { blankV p with pj := some j, name := nm, lines := 1, kn := k } D g [k] b ∧ Mod w' w0 (decB x { blankV p with pj := some j, name := nm, lines := 1, kn := k } * (diskA p D * (jourA j p nm b.length * F)))
theorem begun_says {x p : Nat} {v : DecV} {D : DiskSt} {g : Nat} {ks : List Kn} {b : List UInt8} {nm : ByteArray} {g2 j2 : Nat} {w w0 : World} {F : Asn} (ok : DecOk v D g ks b) (hg : KnOk v.kn ∧ KnMay v.kn) (hne : v.name ≠ nm) (hnm : nm = nd0 ∨ nm = nd1)
    (m : Mod w w0 (decB x { ({ blankV p with kn := v.kn, name := v.name } : DecV) with pj := some j2, name := nm, lines := 1 } * (diskA p (if v.name = nm then stage D nm g2 (writ 0 true v.kn.bytes) 2 else
      { stage D nm g2 (writ 0 true v.kn.bytes) 2 with now := mdel (mput D.now nm g2) v.name, sure := mdel (mput D.now nm g2) v.name }) * (jourA j2 p nm (writ 0 true v.kn.bytes).length * F)))) : NewRSays p v.kn F w0 (.returned (.tuple #[ptr x, .int .i64 0])) w := by
  rw [if_neg hne] at m
  have hjr : writ 0 true v.kn.bytes = journal [] ([v.kn].map Kn.bytes) := by
    have hj0 : journal [] [] = [] := rfl
    rw [List.map_cons, List.map_nil, ← List.nil_append [v.kn.bytes], journal_snoc, hj0, List.nil_append, List.length_nil]
  generalize writ 0 true v.kn.bytes = bb at *
  refine ⟨x, nm, j2, g2, _, bb, rfl, ?_, m⟩
  have hmd : mdel (mput D.now nm g2) v.name = [(nm, g2)] := by rw [ok.now]; simp [mput, mdel, hne, Ne.symm hne]
  exact ⟨ok.size, hmd, hmd, by simp [stage, withFile, fget], hjr, rfl, (by show 1 ≤ 200; decide), rfl, hnm, fun k2 h2 => by rw [List.mem_singleton.1 h2]; exact hg⟩
set_option maxRecDepth 4000 in
set_option maxHeartbeats 4000000 in
theorem new_records (p : Nat) (v : DecV) (D : DiskSt) (g : Nat) (ks : List Kn) (b : List UInt8) (ok : DecOk v D g ks b) (w w0 : World) (F : Asn) (m : Mod w w0 (diskA p D * F)) : Calls Tryz.prog 54 #[ptr p] w (NewRSays p v.kn F w0) := by
  have Hok := Lib.hid ok
  clear ok
  go_enter Tryz.func54, Tryz.ntmps54
  go_wp2_with fail
  refine (size_none p D ⟨#[120]⟩ w w0 _ _ m inferInstance (by decide) ok_x Hok.out.noX).mono ?_
  rintro e w1 ⟨rfl, m1⟩
  go_wp2_with fail
  have m2 : Mod (w1.alloc (.cells (blankV p).cells 175)) w0 (decB w1.heap.size (blankV p) * (diskA p D * F)) := inferInstance
  refine (list_spec p D (w1.alloc (.cells (blankV p).cells 175)) w0 _ _ m2 inferInstance).mono ?_
  rintro e w3 ⟨B, c, rfl, m3⟩
  rw [Hok.out.list] at m3 ⊢
  go_wp2_with fail
  have m4 : Mod w3 w0 (rowA 9 1 (.slice B 1 c) 1 (texts [v.name]) * (decB w1.heap.size (blankV p) * (diskA p D * F))) := Mod.to (m := m3) (by rfl)
  generalize w1.heap.size = x at *
  go_loopg [40] 1 (fun gk iv wr => ∃ (i : Nat) (v1 : DecV), i ≤ 1 ∧ gk = 1 - i ∧ iv = .int .i64 (i : Int) ∧ Hid ((i = 0 ∧ v1 = blankV p) ∨ (i = 1 ∧ v1 = { blankV p with kn := v.kn, name := v.name })) ∧ Mod wr w0 (rowA 9 1 (.slice B 1 c) 1 (texts [v.name]) * (decB x v1 * (diskA p D * F))))
  case atStart => exact ⟨0, _, by omega, rfl, rfl, .inl ⟨rfl, rfl⟩, m4⟩
  case round =>
    obtain ⟨i, v1, hi, hgk, rfl, Hv, m5⟩ := hrel
    by_cases hlt : i < 1
    · have hi0 : i = 0 := by omega
      subst hi0
      obtain rfl : v1 = blankV p := by rcases Hv.out with ⟨_, h⟩ | ⟨h, _⟩; exact h; exact absurd h (by decide)
      obtain ⟨⟨bn, on_, sp⟩, hA, hsp, hxx⟩ := reads_cell m5 (reads_lift inferInstance (Reads.row 9 B 1 c (texts [v.name]))) (by decide)
      clear hxx
      simp only at hsp
      subst hsp hA
      have k1 : CellAt (rowA 9 1 (.slice (some ⟨bn, on_, none⟩) 1 c) 1 (texts [v.name])) bn on_ (.string v.name) := reads_at_cell (Reads.row 9 _ 1 c (texts [v.name])) (by decide) 0 rfl
      have hnm : (v.name.toList == [100, 45, 48]) = true ∨ ((v.name.toList == [100, 45, 48]) = false ∧ (v.name.toList == [100, 45, 49]) = true) := by
        rcases Hok.out.name with e | e <;> rw [e]
        · exact .inl (by rw [ByteArray.toList_eq]; decide)
        · exact .inr ⟨by rw [ByteArray.toList_eq]; decide, by rw [ByteArray.toList_eq]; decide⟩
      rcases hnm with h1 | ⟨h1, h2⟩
      all_goals
        go_wp2_with fail
        have HO := jopen_there p D v.name wr w0 (rowA 9 1 (.slice (some ⟨bn, on_, none⟩) 1 c) 1 (texts [v.name]) * (decB x (blankV p) * F)) (Mod.to (m := m5) (by ac_rfl)) Hok.out.nameSize g ⟨b, b.length⟩ Hok.out.okName (by rw [Hok.out.now]; exact mget_one _ _) Hok.out.file (by have := Hok.out.small; show b.length ≤ _; omega)
        have hra : readAll b = (ks.map Kn.bytes, b.length) := by
          have h1 := readAll_journal (ks.map Kn.bytes)
          rw [← Hok.out.jour] at h1
          exact h1
        simp only [hra] at HO
        refine HO.mono ?_
        clear HO hra m5
        rintro e w4 ⟨j, B2, R, rfl, hrr, m6⟩
        dsimp only at hrr m6 ⊢
        rw [List.length_map] at hrr ⊢
        go_wp2_with fail
        obtain ⟨RR, hRR, m7⟩ : ∃ RR, ReadsRecs RR B2 ks.length (ks.map Kn.bytes) ∧ Mod w4 w0 (decB x (blankV p) * (RR * (rowA 9 1 (.slice (some ⟨bn, on_, none⟩) 1 c) 1 (texts [v.name]) * (diskA p D * F)))) := ⟨R, hrr, Mod.drop (A := jourA j p v.name b.length) (m := Mod.to (m := m6) (by ac_rfl))⟩
        clear hrr m6
        have Hgood := Lib.hid Hok.out.good
        have hkl2 : ks.length ≤ 200 := by have h1 := Hok.out.lines; have h2 := Hok.out.most; omega
        go_loopg [61] ks.length (fun gk tv wr => ∃ (t : Nat) (k1 : Kn) (nm : ByteArray), t ≤ ks.length ∧ gk = ks.length - t ∧ tv = .int .i64 (t : Int) ∧ Hid (0 < t → ks[t - 1]? = some k1 ∧ nm = v.name) ∧ Mod wr w0 (decB x { blankV p with kn := k1, name := nm } * (RR * (rowA 9 1 (.slice (some ⟨bn, on_, none⟩) 1 c) 1 (texts [v.name]) * (diskA p D * F)))))
        case atStart => exact ⟨0, _, _, Nat.zero_le _, rfl, rfl, fun h => absurd h (by decide), m7⟩
        case round =>
          obtain ⟨t, kt, nm, htn, hgk2, rfl, Hkt, m8⟩ := hrel
          by_cases hlt : t < ks.length
          · obtain ⟨b1, o1, hB1, hkl, B, cB, hxA, rB, hcB⟩ := reads_rec_all (Mod.sub RR (m := m8)) hRR hlt
            subst hB1
            have hti : (t : Int) < (ks.length : Int) := by omega
            obtain ⟨k, hkt⟩ : ∃ k, ks[t]? = some k := ⟨ks[t], List.getElem?_eq_getElem hlt⟩
            have hke : (ks.map Kn.bytes)[t] = k.bytes := by
              rw [List.getElem_map]
              rw [List.getElem?_eq_getElem hlt] at hkt
              rw [Option.some.inj hkt]
            have hkg := Hgood.out k (List.mem_of_getElem? hkt)
            have HkO := Lib.hid hkg.1
            have HkM := Lib.hid hkg.2
            rw [hke] at rB hcB hxA
            rw [Kn.bytes_length] at rB hcB hxA
            obtain ⟨⟨b2, o2, sp2⟩, hB2, hsp2, hx2⟩ := reads_cell m8 (reads_lift inferInstance rB) (by decide)
            clear hx2
            simp only at hsp2
            subst hsp2 hB2
            have HxA := Lib.hid hxA
            have HrB := Lib.hid rB
            have HhcB := Lib.hid hcB
            have Hkt2 := Lib.hid hkt
            have hx : wr.cell? ⟨b1, o1 + t, none⟩ = _ := HxA.out ⟨wr, Mod.sub RR (m := m8)⟩
            clear hke hkg hxA rB hcB hkt hkl Hkt
            generalize hnt : ks.length = nt at *
            go_wp2_with first | (go_at_call 135; refine (back_spec k HkO.out HkM.out b2 o2 cB HhcB.out _ w0 _ m8 (reads_lift inferInstance HrB.out)).mono ?_; rintro e w9 ⟨rfl, m9⟩) | (refine wpList_load_kn (k := k) rfl rfl rfl ?_) | (refine wpList_store_kn0 (k := k) rfl rfl rfl rfl rfl ?_; intro w10 m10) | (refine wpList_store_kn (v := { blankV p with kn := kt, name := nm }) (k := k) rfl rfl rfl rfl ?_; intro w11 m11)
            have m12 : Mod (w11.setCell ⟨x, 2, none⟩ (.string v.name)) w0 _ := inferInstance
            simp only [emp_sep, DecV.set2] at m12
            go_roundg (nt - (t + 1))
            case rel => exact ⟨t + 1, k, v.name, hlt, rfl, by go_num, fun _ => ⟨Hkt2.out, rfl⟩, Mod.drop (A := Go.Sl.blk w9.heap.size (.cells k.cells 171 (0, 0))) (m := Mod.to (m := m12) (by unfold decB; ac_rfl))⟩
            case measure => omega
          · have hti : ¬ ((t : Int) < (ks.length : Int)) := by omega
            have hks : 0 < ks.length := by
              rcases Nat.eq_zero_or_pos ks.length with h | h
              · have := Hok.out.last
                rw [List.eq_nil_of_length_eq_zero h] at this
                cases this
              · exact h
            have htk : t = ks.length := by omega
            obtain ⟨hkv, rfl⟩ := Hkt.out (by omega)
            rw [htk, ← List.getLast?_eq_getElem?, Hok.out.last] at hkv
            obtain rfl := Option.some.inj hkv
            clear hkv
            go_wp2_with fail
            go_roundg 0
            case measure => omega
            case rel => exact ⟨1, { blankV p with kn := v.kn, name := v.name }, Nat.le_refl _, rfl, by go_num, .inr ⟨rfl, rfl⟩, Mod.drop (A := RR) (m := Mod.to (m := m8) (by ac_rfl))⟩
    · obtain rfl : i = 1 := by omega
      obtain rfl : v1 = { blankV p with kn := v.kn, name := v.name } := by rcases Hv.out with ⟨h, _⟩ | ⟨_, h⟩; exact absurd h (by decide); exact h
      have m6 : Mod wr w0 (decB x { blankV p with kn := v.kn, name := v.name } * (diskA p D * F)) := Mod.drop (m := m5)
      clear m5 m4 m3 m2 m1 m Hv
      have ok := Hok.out
      have hkk := (ok.good _ (List.mem_of_getLast? ok.last))
      obtain ⟨nm, hnm⟩ : ∃ nm, otherName v.name = nm := ⟨_, rfl⟩
      have hne : v.name ≠ nm := by
        rw [← hnm]; rcases ok.name with e | e <;> rw [e] <;> decide
      have hnm2 : nm = nd0 ∨ nm = nd1 := by
        rw [← hnm]; unfold otherName; split <;> simp
      have hokn : nameOk nm = true := by rcases hnm2 with e | e <;> rw [e] <;> first | exact ok_d0 | exact ok_d1
      have hszn : nm.size ≤ 9223372036854775807 := by rcases hnm2 with e | e <;> rw [e] <;> decide
      have hgn : mget D.now nm = none := by rw [ok.now]; simp [mget, hne]
      have hleft : 400 ≤ leftOf D := by rw [ok.left]; have := ok.small; omega
      have HB := Lib.hid (fun (u : World) (G : Asn) (mu : Mod u w0 (decB x { blankV p with kn := v.kn, name := v.name } * (diskA p D * G))) => begin_spec x p { blankV p with kn := v.kn, name := v.name } D nm u w0 G mu rfl hkk.1 hszn hokn hgn (by rw [ok.now]; simp) hleft (.inr ⟨ok.okName, ok.nameSize, g, by show mget D.now v.name = _; rw [ok.now]; exact mget_one _ _⟩))
      have Hkk := Lib.hid hkk
      clear hokn hszn hleft hgn hnm ok hkk
      have hcs : ((v.name.toList == [100, 45, 48]) = true ∧ Hid (nm = nd1)) ∨ ((v.name.toList == [100, 45, 48]) = false ∧ Hid (nm = nd0)) := by
        rcases Hok.out.name with hv | hv
        · refine .inl ⟨by rw [hv, ByteArray.toList_eq]; decide, ?_⟩
          rcases hnm2 with e | e
          · exact absurd (hv.trans e.symm) hne
          · exact e
        · refine .inr ⟨by rw [hv, ByteArray.toList_eq]; decide, ?_⟩
          rcases hnm2 with e | e
          · exact e
          · exact absurd (hv.trans e.symm) hne
      rcases hcs with ⟨hcond, Hnm⟩ | ⟨hcond, Hnm⟩
      all_goals
        obtain rfl := Hnm.out
        go_wp2_with fail
        refine (HB.out wr F m6).mono ?_
        rintro e w3 ⟨rfl, g2, j2, _, m7⟩
        clear m6 HB
        go_wp2_with fail
        go_ret2
        exact begun_says Hok.out Hkk.out hne (by simp) m7
end Go.Proofs.YtkdiejbpleojnaaGreatDoor
