/- law01's Book: a list is put in, and all are found apart: contracts over the small separation logic. -/
import Derived.Test.YtcakdaadbpimaaaGreatDoorBook3
namespace Go.Proofs.YtcakdaadbpimaaaGreatDoor
open Go.RowKit Go.Sl
attribute [local go_sem] cell_of cellAt_of frozen_of
/-- A book of lists of bytes, in the heap. -/
abbrev bookA (k : Nat) (B : Option Addr) (cB : Nat) (L : List Hd) : Asn := Go.Sl.blk k (.cells #[.int .i64 (L.length : Int), (.slice B L.length cB), .slice none 0 0, .slice none 0 0, .slice none 0 0, .slice none 0 0, .slice none 0 0, .slice none 0 0, .slice none 0 0, .slice none 0 0, .slice none 0 0, .slice none 0 0, .slice none 0 0, .slice none 0 0] 45 (0, 0)) * (rowA 159 3 (.slice B L.length cB) L.length (hdCells (psOf L)) * rowsA L)
theorem psOf_snoc (L : List Hd) (h : Hd) : psOf (L ++ [h]) = psOf L ++ [(.slice h.a h.vs.length h.c, .slice none 0 0)] := by simp [psOf]
/-- One list more. -/
theorem bytes_spec (k : Nat) (B : Option Addr) (cB : Nat) (L : List Hd) (h : Hd) (w w0 : World) (F : Asn) (hL : L.length ≤ 20000000) (m : Mod w w0 (bookA k B cB L * (rowA 5 1 (.slice h.a h.vs.length h.c) h.vs.length h.vs * F))) :
    Calls Tryz.prog 22 #[ptr k, .slice h.a h.vs.length h.c] w fun e w' => e = .returned (.tuple #[]) ∧ ∃ B' cB', Mod w' w0 (bookA k B' cB' (L ++ [h]) * F) := by
  have hl := psOf_length L
  have H := Lib.hid (fun (w : World) (F' : Asn) m => keep_spec k B cB (psOf L) h.a h.vs.length h.c w w0 F' (by rw [hl]; exact hL) m)
  rw [hl] at H
  have e2 : (L ++ [h]).length = L.length + 1 := by simp
  have HR : Hid (∀ (u : World) (B' : Option Addr) (cB' : Nat), Mod u w0 (Go.Sl.blk k (.cells #[.int .i64 ((L.length + 1 : Nat) : Int), (.slice B' (L.length + 1) cB'), .slice none 0 0, .slice none 0 0, .slice none 0 0, .slice none 0 0, .slice none 0 0, .slice none 0 0, .slice none 0 0, .slice none 0 0, .slice none 0 0, .slice none 0 0, .slice none 0 0, .slice none 0 0] 45 (0, 0)) * (rowA 159 3 (.slice B' (L.length + 1) cB') (L.length + 1) (hdCells (psOf L ++ [(.slice h.a h.vs.length h.c, .slice none 0 0)])) * (rowsA L * (rowA 5 1 (.slice h.a h.vs.length h.c) h.vs.length h.vs * F)))) → Mod u w0 (bookA k B' cB' (L ++ [h]) * F)) := fun u B' cB' mu => by
    unfold bookA
    rw [e2, psOf_snoc, rowsA_snoc]
    exact Mod.to (m := mu) (by ac_rfl)
  have m1 : Mod w w0 (Go.Sl.blk k (.cells #[.int .i64 (L.length : Int), (.slice B L.length cB), .slice none 0 0, .slice none 0 0, .slice none 0 0, .slice none 0 0, .slice none 0 0, .slice none 0 0, .slice none 0 0, .slice none 0 0, .slice none 0 0, .slice none 0 0, .slice none 0 0, .slice none 0 0] 45 (0, 0)) * (rowA 159 3 (.slice B L.length cB) L.length (hdCells (psOf L)) * (rowsA L * (rowA 5 1 (.slice h.a h.vs.length h.c) h.vs.length h.vs * F)))) := Mod.to (m := m) (by unfold bookA; ac_rfl)
  have M1 := Lib.hid m1
  clear m m1 hl e2
  generalize h.a = ha at *
  generalize h.vs.length = hn at *
  generalize h.c = hc at *
  go_enter Tryz.func22, Tryz.ntmps22
  go_wp2_with (go_at_call 57; refine (H.out _ _ M1.out).mono ?_; rintro e w2 ⟨rfl, B', cB', m2⟩)
  go_end0
  exact ⟨rfl, B', cB', HR.out _ _ _ m2⟩
set_option maxRecDepth 4000 in
set_option maxHeartbeats 4000000 in
theorem apart_spec (k : Nat) (B : Option Addr) (cB : Nat) (L : List Hd) (w w0 : World) (F : Asn) (hL : L.length ≤ 20000000) (hv : ∀ h ∈ L, h.vs.length ≤ 10000000) (m : Mod w w0 (bookA k B cB L * F)) :
    Calls Tryz.prog 35 #[ptr k] w fun e w' => e = .returned (.bool true) ∧ Mod w' w0 F := by
  have eM := marked_length L 0
  have HF := Lib.hid (fill_spec k B cB L w w0 F hL hv (Mod.to (m := m) (by unfold bookA; ac_rfl)))
  have HG := Lib.hid (fun (w : World) m => grow_spec k B cB (marked 0 L) w w0 F (by rw [eM]; exact hL) (fun h hh => by
    obtain ⟨i, hi, rfl⟩ := List.mem_iff_getElem.1 hh
    have hi2 : i < L.length := by rw [eM] at hi; exact hi
    have h1 := marked_at L 0 i hi2
    obtain ⟨_, h3⟩ := List.getElem?_eq_some_iff.1 h1
    rw [h3]
    simp only [List.length_replicate]
    exact hv _ (List.getElem_mem hi2)) (fun i hi => by
    have hi2 : i < L.length := by rw [eM] at hi; exact hi
    have h1 := marked_at L 0 i hi2
    obtain ⟨_, h3⟩ := List.getElem?_eq_some_iff.1 h1
    rw [h3]
    simp only [List.length_replicate, Nat.zero_add]) m)
  rw [eM, psOf_marked] at HG
  obtain ⟨n, hn⟩ : ∃ n, L.length = n := ⟨_, rfl⟩
  rw [hn] at HF HG hL
  clear m eM hv hn
  go_enter Tryz.func35, Tryz.ntmps35
  go_wp2_with (go_at_call 63; refine HF.out.mono ?_; rintro e w1 ⟨rfl, mm⟩; refine Hid.out ?_)
  obtain ⟨S1, hS1⟩ : ∃ S1, Go.Sl.blk k (.cells #[.int .i64 (n : Int), (.slice B n cB), .slice none 0 0, .slice none 0 0, .slice none 0 0, .slice none 0 0, .slice none 0 0, .slice none 0 0, .slice none 0 0, .slice none 0 0, .slice none 0 0, .slice none 0 0, .slice none 0 0, .slice none 0 0] 45 (0, 0)) * (rowA 159 3 (.slice B n cB) n (hdCells (psOf L)) * (rowsA (marked 0 L) * F)) = S1 := ⟨_, rfl⟩
  rw [hS1] at mm
  have hb : Has S1 k (.cells #[.int .i64 (n : Int), (.slice B n cB), .slice none 0 0, .slice none 0 0, .slice none 0 0, .slice none 0 0, .slice none 0 0, .slice none 0 0, .slice none 0 0, .slice none 0 0, .slice none 0 0, .slice none 0 0, .slice none 0 0, .slice none 0 0] 45 (0, 0)) := by rw [← hS1]; infer_instance
  have HS1 := Lib.hid hS1
  clear hS1 HF
  refine Lib.hid ?_
  go_wp2_with first
    | (go_at_call 64; refine (fillId_none mm hb).mono ?_; rintro e w2 ⟨rfl, mn⟩; clear mm; have mm := mn; clear mn)
    | (go_at_call 65; refine (fillNum_none mm hb).mono ?_; rintro e w2 ⟨rfl, mn⟩; clear mm; have mm := mn; clear mn)
    | (go_at_call 66; refine (fillInt_none mm hb).mono ?_; rintro e w2 ⟨rfl, mn⟩; clear mm; have mm := mn; clear mn)
    | (go_at_call 67; refine (fillText_none mm hb).mono ?_; rintro e w2 ⟨rfl, mn⟩; clear mm; have mm := mn; clear mn)
    | (go_at_call 68; refine (fillRow_none mm hb).mono ?_; rintro e w2 ⟨rfl, mn⟩; clear mm; have mm := mn; clear mn)
    | (go_at_call 69; refine (fillChange_none mm hb).mono ?_; rintro e w2 ⟨rfl, mn⟩; clear mm; have mm := mn; clear mn)
    | (go_at_call 70; refine (fillEntry_none mm hb).mono ?_; rintro e w2 ⟨rfl, mn⟩; clear mm; have mm := mn; clear mn)
    | (go_at_call 71; refine (fillFile_none mm hb).mono ?_; rintro e w2 ⟨rfl, mn⟩; clear mm; have mm := mn; clear mn)
    | (go_at_call 72; refine (fillItem_none mm hb).mono ?_; rintro e w2 ⟨rfl, mn⟩; clear mm; have mm := mn; clear mn)
    | (go_at_call 73; refine (fillSaid_none mm hb).mono ?_; rintro e w2 ⟨rfl, mn⟩; clear mm; have mm := mn; clear mn)
    | (go_at_call 74; refine (fillMsg_none mm hb).mono ?_; rintro e w2 ⟨rfl, mn⟩; clear mm; have mm := mn; clear mn)
    | (go_at_call 75; refine (fillEvent_none mm hb).mono ?_; rintro e w2 ⟨rfl, mn⟩; clear mm; have mm := mn; clear mn)
    | (go_at_call 76; refine (HG.out _ (by rw [HS1.out]; exact mm)).mono ?_; rintro e w3 ⟨rfl, ps, X, hpl, hX, mn⟩; refine Hid.out ?_)
  clear mm hb HS1
  have HX := Lib.hid hX
  have Hpl := Lib.hid hpl
  obtain ⟨S2, hS2⟩ : ∃ S2, Go.Sl.blk k (.cells #[.int .i64 (n : Int), (.slice B n cB), .slice none 0 0, .slice none 0 0, .slice none 0 0, .slice none 0 0, .slice none 0 0, .slice none 0 0, .slice none 0 0, .slice none 0 0, .slice none 0 0, .slice none 0 0, .slice none 0 0, .slice none 0 0] 45 (0, 0)) * (rowA 159 3 (.slice B n cB) n (hdCells ps) * (X * F)) = S2 := ⟨_, rfl⟩
  rw [hS2] at mn
  have hb : Has S2 k (.cells #[.int .i64 (n : Int), (.slice B n cB), .slice none 0 0, .slice none 0 0, .slice none 0 0, .slice none 0 0, .slice none 0 0, .slice none 0 0, .slice none 0 0, .slice none 0 0, .slice none 0 0, .slice none 0 0, .slice none 0 0, .slice none 0 0] 45 (0, 0)) := by rw [← hS2]; infer_instance
  have HS2 := Lib.hid hS2
  clear hS2 HG hpl hX
  have mm := mn
  clear mn
  refine Lib.hid ?_
  go_wp2_with first
    | (go_at_call 77; refine (growId_none mm hb).mono ?_; rintro e w2 ⟨rfl, mn⟩; clear mm; have mm := mn; clear mn)
    | (go_at_call 78; refine (growNum_none mm hb).mono ?_; rintro e w2 ⟨rfl, mn⟩; clear mm; have mm := mn; clear mn)
    | (go_at_call 79; refine (growInt_none mm hb).mono ?_; rintro e w2 ⟨rfl, mn⟩; clear mm; have mm := mn; clear mn)
    | (go_at_call 80; refine (growText_none mm hb).mono ?_; rintro e w2 ⟨rfl, mn⟩; clear mm; have mm := mn; clear mn)
    | (go_at_call 81; refine (growRow_none mm hb).mono ?_; rintro e w2 ⟨rfl, mn⟩; clear mm; have mm := mn; clear mn)
    | (go_at_call 82; refine (growChange_none mm hb).mono ?_; rintro e w2 ⟨rfl, mn⟩; clear mm; have mm := mn; clear mn)
    | (go_at_call 83; refine (growEntry_none mm hb).mono ?_; rintro e w2 ⟨rfl, mn⟩; clear mm; have mm := mn; clear mn)
    | (go_at_call 84; refine (growFile_none mm hb).mono ?_; rintro e w2 ⟨rfl, mn⟩; clear mm; have mm := mn; clear mn)
    | (go_at_call 85; refine (growItem_none mm hb).mono ?_; rintro e w2 ⟨rfl, mn⟩; clear mm; have mm := mn; clear mn)
    | (go_at_call 86; refine (growSaid_none mm hb).mono ?_; rintro e w2 ⟨rfl, mn⟩; clear mm; have mm := mn; clear mn)
    | (go_at_call 87; refine (growMsg_none mm hb).mono ?_; rintro e w2 ⟨rfl, mn⟩; clear mm; have mm := mn; clear mn)
    | (go_at_call 88; refine (growEvent_none mm hb).mono ?_; rintro e w2 ⟨rfl, mn⟩; clear mm; have mm := mn; clear mn)
    | (go_at_call 89; refine (look_spec k B n cB ps X _ w0 F hL Hpl.out HX.out (by rw [HS2.out]; exact mm)).mono ?_; rintro e w2 ⟨rfl, mn⟩; clear mm; have mm := mn; clear mn; rw [HS2.out] at mm)
    | (go_at_call 90; refine (lookId_none mm hb).mono ?_; rintro e w2 ⟨rfl, mn⟩; clear mm; have mm := mn; clear mn)
    | (go_at_call 91; refine (lookNum_none mm hb).mono ?_; rintro e w2 ⟨rfl, mn⟩; clear mm; have mm := mn; clear mn)
    | (go_at_call 92; refine (lookInt_none mm hb).mono ?_; rintro e w2 ⟨rfl, mn⟩; clear mm; have mm := mn; clear mn)
    | (go_at_call 93; refine (lookText_none mm hb).mono ?_; rintro e w2 ⟨rfl, mn⟩; clear mm; have mm := mn; clear mn)
    | (go_at_call 94; refine (lookRow_none mm hb).mono ?_; rintro e w2 ⟨rfl, mn⟩; clear mm; have mm := mn; clear mn)
    | (go_at_call 95; refine (lookChange_none mm hb).mono ?_; rintro e w2 ⟨rfl, mn⟩; clear mm; have mm := mn; clear mn)
    | (go_at_call 96; refine (lookEntry_none mm hb).mono ?_; rintro e w2 ⟨rfl, mn⟩; clear mm; have mm := mn; clear mn)
    | (go_at_call 97; refine (lookFile_none mm hb).mono ?_; rintro e w2 ⟨rfl, mn⟩; clear mm; have mm := mn; clear mn)
    | (go_at_call 98; refine (lookItem_none mm hb).mono ?_; rintro e w2 ⟨rfl, mn⟩; clear mm; have mm := mn; clear mn)
    | (go_at_call 99; refine (lookSaid_none mm hb).mono ?_; rintro e w2 ⟨rfl, mn⟩; clear mm; have mm := mn; clear mn)
    | (go_at_call 100; refine (lookMsg_none mm hb).mono ?_; rintro e w2 ⟨rfl, mn⟩; clear mm; have mm := mn; clear mn)
    | (go_at_call 101; refine (lookEvent_none mm hb).mono ?_; rintro e w2 ⟨rfl, mn⟩; clear mm; have mm := mn; clear mn)
  go_ret
  rw [← HS2.out] at mm
  exact ⟨rfl, Mod.drop (m := Mod.drop (m := Mod.drop (m := mm)))⟩
end Go.Proofs.YtcakdaadbpimaaaGreatDoor
