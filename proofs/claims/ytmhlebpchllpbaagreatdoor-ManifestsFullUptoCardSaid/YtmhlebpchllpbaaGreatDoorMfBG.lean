/- A journal's Add where the disk has no room, and Add at any disk: contracts over the small separation logic; the conditions are in each theorem.
The steps of a manifest's begin, and what it does where one came to nothing: contracts over the small separation logic; the conditions are in each theorem.
The steps of a manifest's begin, one by one, in its own frame: contracts over the small separation logic; the conditions are in each theorem.
A region that draws its order, where every operation keeps what is asked of the world: laws of no program; the conditions are in each theorem.
A manifest's begin: a contract over the small separation logic; the conditions are in the theorem. -/
import Derived.Test.YtmhlebpchllpbaaGreatDoorJourG
import Derived.Test.YtmhlebpchllpbaaGreatDoorEdAG
import Derived.Test.YtmhlebpchllpbaaGreatDoorMfAG
import Derived.Test.YtmhlebpchllpbaaGreatDoorPartsG
import Derived.Test.YtmhlebpchllpbaaGreatDoorNamesG
import Derived.Deep.RegionWith
import Derived.Defers
import Derived.BigRegion
import Derived.Deep.CutRange
import Derived.FnLit
namespace Go.Proofs.YtmhlebpchllpbaaGreatDoor
open Go.RowKit Go.Sl
attribute [local go_sem] cell_of frozen_of zero_names
section
variable (j p : Nat) (D : DiskSt) (name : ByteArray) (w w0 : World) (F : Asn) (B : Option Addr) (c : Nat) (rec : List UInt8) (g : Nat) (f : FileSt) (hs : name.size ≤ 9223372036854775807) (hn : nameOk name = true) (hg : mget D.now name = some g) (hf : fget D.files g = some f)
include hs hn hg hf
set_option maxHeartbeats 4000000 in
theorem add_full (m : Mod w w0 (diskA p D * (jourA j p name f.bytes.length * F))) (r : Reads F B rec.length (u8s rec)) (hc : rec.length ≤ c) (hl : rec.length ≤ 65536)
    (hb1 : f.bytes.length ≤ 1048576) (h : leftOf D < (writ f.bytes.length true rec).length ∨ 1048576 < f.bytes.length + (writ f.bytes.length true rec).length) :
    Calls Tryz.prog 33 #[ptr j, .slice B rec.length c] w fun e w' => e = .returned (.int .i64 6) ∧
      Mod w' w0 (diskA p D * (jourA j p name f.bytes.length * F)) := by
  unfold jourA at m ⊢
  obtain ⟨out, hout⟩ : ∃ out, writ f.bytes.length true rec = out := ⟨_, rfl⟩
  obtain ⟨b, hb⟩ : ∃ b, f.bytes.length = b := ⟨_, rfl⟩
  have hW := written_spec b B rec.length c rec
  have hwl := writ_length_le f.bytes.length rec
  rw [hout] at h hwl
  rw [hb] at hout m h hb1 ⊢
  rw [hout] at hW
  have HW := Lib.hid hW
  clear hW
  have Hb := Lib.hid hb
  clear hb hout
  go_enter Tryz.func33, Tryz.ntmps33
  go_wp2_with (go_at_call 84; refine (jthere_spec j p name _ _ w0 _ inferInstance).mono ?_; rintro e w1 ⟨rfl, _m1⟩)
  obtain ⟨SS, hSS, mSS⟩ : ∃ SS, SS = _ ∧ Mod w1 w0 SS := ⟨_, rfl, _m1⟩
  have hj : Has SS j (.cells #[ptr p, .string name, .int .i64 (b : Int)] 107 (0, 0)) := by rw [hSS]; infer_instance
  obtain ⟨FF, hp⟩ : ∃ FF, Take SS (diskA p) D FF := ⟨_, by rw [hSS]; infer_instance⟩
  have HC : Hid (∀ u, Mod u w0 SS → Calls Tryz.prog 13 #[ptr p, .string name] u fun e w' => e = .returned (.tuple #[.int .i64 (b : Int), .int .i64 0]) ∧ Mod w' w0 SS) := fun u mu => by have := size_some p D name g f u w0 SS _ mu hp hs hn hg hf; rw [Hb.out] at this; exact this
  have HSS := Lib.hid hSS
  clear hSS
  have := Held.some mSS
  refine wp_region_mod mSS (by kernel_rfl) (by kernel_rfl) ?_
  repeat (go_big_quiet_step ((go_at_call 13; refine quiet_call (HC.out _ ?_); exact inferInstance)))
  refine wpQuiet_nil ?_
  rintro w3 ⟨s, rfl⟩
  have m3 := Mod.to (m := s.mod) HSS.out
  clear HC mSS hj hp HSS this
  generalize s.world = w3 at *
  go_wp2_with fail
  refine (HW.out w3 w0 _ m3 inferInstance hc (by omega)).mono ?_
  rintro e w4 ⟨A', c', rfl, m4⟩
  go_wp2_with fail
  obtain ⟨SS, hSS, mSS⟩ : ∃ SS, SS = _ ∧ Mod w4 w0 SS := ⟨_, rfl, m4⟩
  have hj : Has SS j (.cells #[ptr p, .string name, .int .i64 (b : Int)] 107 (0, 0)) := by rw [hSS]; infer_instance
  have HSS := Lib.hid hSS
  clear hSS
  have := Held.some mSS
  refine wp_region_mod_tail 9 mSS (by kernel_rfl) (by kernel_rfl) ?_
  simp only [List.take_succ_cons, List.take_zero, List.drop_succ_cons, List.drop_zero]
  repeat (go_big_quiet_step (fail))
  refine wpQuiet_nil ?_
  rintro w5 ⟨s, rfl⟩
  have m5 := Mod.to (m := s.mod) HSS.out
  clear mSS hj HSS this m4 m3
  generalize s.world = w5 at *
  go_wp2_with fail
  refine (append_full p D name w5 w0 _ _ inferInstance inferInstance hs A' out.length c' g f hn hg hf (by omega) (by rw [Hb.out]; exact h)).mono ?_
  rintro e w6 ⟨rfl, m6⟩
  go_wp2_with fail
  go_ret
  exact ⟨rfl, Mod.keep m6⟩
end
/-- Does a record fit behind b bytes? -/
def fitsJ (D : DiskSt) (b : Nat) (rec : List UInt8) : Prop := rec.length ≤ 65536 ∧ (writ b true rec).length ≤ leftOf D ∧ b + (writ b true rec).length ≤ 1048576
instance decFitsJ (D : DiskSt) (b : Nat) (rec : List UInt8) : Decidable (fitsJ D b rec) := by unfold fitsJ; infer_instance
def AddSays (j p : Nat) (D : DiskSt) (name : ByteArray) (w0 : World) (F : Asn) (rec : List UInt8) (g : Nat) (f : FileSt) (e : Ending) (w' : World) : Prop :=
  (fitsJ D f.bytes.length rec ∧ e = .returned (.int .i64 0) ∧ Mod w' w0 (diskA p { D with files := fset D.files g ⟨f.bytes ++ writ f.bytes.length true rec, f.sure⟩ } * (jourA j p name (f.bytes ++ writ f.bytes.length true rec).length * F))) ∨
  (¬ fitsJ D f.bytes.length rec ∧ ∃ r : Int, (r = 3 ∨ r = 6) ∧ e = .returned (.int .i64 r) ∧ Mod w' w0 (diskA p D * (jourA j p name f.bytes.length * F)))
theorem add_any (j p : Nat) (D : DiskSt) (name : ByteArray) (w w0 : World) (F : Asn) (B : Option Addr) (c : Nat) (rec : List UInt8) (g : Nat) (f : FileSt) (hs : name.size ≤ 9223372036854775807) (hn : nameOk name = true) (hg : mget D.now name = some g) (hf : fget D.files g = some f)
    (m : Mod w w0 (diskA p D * (jourA j p name f.bytes.length * F))) (r : Reads F B rec.length (u8s rec)) (hc : rec.length ≤ c) (hb1 : f.bytes.length ≤ 1048576) :
    Calls Tryz.prog 33 #[ptr j, .slice B rec.length c] w (AddSays j p D name w0 F rec g f) := by
  by_cases hx : fitsJ D f.bytes.length rec
  · exact (add_ok j p D name w w0 F B c rec g f hs hn hg hf m r hc hx.1 hx.2.1 hx.2.2).mono fun e w' ⟨h1, h2⟩ => .inl ⟨hx, h1, h2⟩
  · rcases Nat.lt_or_ge 65536 rec.length with hl | hl
    · exact (add_limit j p D name w w0 F B c f.bytes.length rec.length m hl).mono fun e w' ⟨h1, h2⟩ => .inr ⟨hx, 3, .inl rfl, h1, h2⟩
    · refine (add_full j p D name w w0 F B c rec g f hs hn hg hf m r hc hl hb1 ?_).mono fun e w' ⟨h1, h2⟩ => .inr ⟨hx, 6, .inr rfl, h1, h2⟩
      unfold fitsJ at hx
      omega
end Go.Proofs.YtmhlebpchllpbaaGreatDoor
namespace Go.Proofs.YtmhlebpchllpbaaGreatDoor
open Go.RowKit Go.Sl
attribute [local go_sem] cell_of cellAt_of frozen_of zero_names conv_sb
section
variable (bm bn be mp p : Nat) (j : Value) (num many : Nat) (fs : Value) (k : Nat × Nat × Nat) (D : DiskSt) (w w0 : World) (F : Asn)
set_option maxHeartbeats 2000000 in
theorem step2_spec (m : Mod w w0 (diskA p D * (blk bm (.cells #[ptr mp] 29 (0, 0)) * (mfA mp p j num many fs k * F)))) (hg : mget D.now nNew = none) (hroom : D.now.length < 64) :
    Calls Tryz.prog 47 #[ptr bm] w fun e w' => ∃ g, e = .returned (.int .i64 0) ∧ fget D.files g = none ∧ Mod w' w0 (diskA p (created D nNew g) * (blk bm (.cells #[ptr mp] 29 (0, 0)) * (mfA mp p j num many fs k * F))) := by
  unfold mfA at m ⊢
  have HG := Lib.hid hg
  clear hg
  go_enter Tryz.func47, Tryz.ntmps47
  go_wp2_with first
    | (go_at_call 45; refine (remove_none p D nNew _ w0 _ _ m inferInstance (by decide) ok_New HG.out).mono ?_; rintro e w1 ⟨rfl, m1⟩)
    | (go_at_call 48; refine (create_ok p D nNew _ w0 _ _ m1 inferInstance (by decide) ok_New HG.out hroom).mono ?_; rintro e w2 ⟨g, rfl, hf, m2⟩)
  go_ret
  rw [emp_sep] at m2
  exact ⟨g, rfl, hf, m2⟩
set_option maxHeartbeats 2000000 in
theorem step4_spec (m : Mod w w0 (diskA p D * (blk bm (.cells #[ptr mp] 29 (0, 0)) * (mfA mp p j num many fs k * F)))) (g : Nat) (f : FileSt) (hg : mget D.now nNew = some g) (hf : fget D.files g = some f) :
    Calls Tryz.prog 51 #[ptr bm] w fun e w' => e = .returned (.int .i64 0) ∧ Mod w' w0 (diskA p { D with files := fset D.files g ⟨f.bytes, f.bytes.length⟩ } * (blk bm (.cells #[ptr mp] 29 (0, 0)) * (mfA mp p j num many fs k * F))) := by
  unfold mfA at m ⊢
  have HG := Lib.hid hg
  have HF := Lib.hid hf
  clear hg hf
  go_enter Tryz.func51, Tryz.ntmps51
  go_wp2_with (go_at_call 52; refine (sync_some p D nNew _ w0 _ _ m inferInstance (by decide) g f ok_New HG.out HF.out).mono ?_; rintro e w1 ⟨rfl, m1⟩)
  go_ret
  rw [emp_sep] at m1
  exact ⟨rfl, m1⟩
set_option maxHeartbeats 2000000 in
theorem step5_spec (m : Mod w w0 (diskA p D * (blk bm (.cells #[ptr mp] 29 (0, 0)) * (mfA mp p j num many fs k * F)))) (g : Nat) (hg : mget D.now nNew = some g) :
    Calls Tryz.prog 53 #[ptr bm] w fun e w' => e = .returned (.int .i64 0) ∧ Mod w' w0 (diskA p (renamed D nNew nM g) * (blk bm (.cells #[ptr mp] 29 (0, 0)) * (mfA mp p j num many fs k * F))) := by
  unfold mfA at m ⊢
  have HG := Lib.hid hg
  clear hg
  go_enter Tryz.func53, Tryz.ntmps53
  go_wp2_with (go_at_call 54; refine (rename_ok p D nNew _ w0 _ _ m inferInstance (by decide) nM (by decide) g (by rw [ok_New, ok_M]; rfl) HG.out).mono ?_; rintro e w1 ⟨rfl, m1⟩)
  go_ret
  rw [emp_sep] at m1
  exact ⟨rfl, m1⟩
set_option maxHeartbeats 4000000 in
theorem step3_spec (nm : ByteArray) (m : Mod w w0 (diskA p D * (blk bm (.cells #[ptr mp] 29 (0, 0)) * (blk bn (.cells #[.string nm] 9 (0, 0)) * (mfA mp p j num many fs k * F))))) (g : Nat) (hg : mget D.now nNew = some g) (hf : fget D.files g = some ⟨[], 0⟩) (hnm : nm.size ≤ 1000) :
    Calls Tryz.prog 49 #[ptr bm, ptr bn] w fun e w' => (nm.size ≤ leftOf D ∧ e = .returned (.int .i64 0) ∧ Mod w' w0 (diskA p { D with files := fset D.files g ⟨nm.data.toList, 0⟩ } * (blk bm (.cells #[ptr mp] 29 (0, 0)) * (blk bn (.cells #[.string nm] 9 (0, 0)) * (mfA mp p j num many fs k * F))))) ∨
      (leftOf D < nm.size ∧ e = .returned (.int .i64 6) ∧ Mod w' w0 (diskA p D * (blk bm (.cells #[ptr mp] 29 (0, 0)) * (blk bn (.cells #[.string nm] 9 (0, 0)) * (mfA mp p j num many fs k * F))))) := by
  unfold mfA at m ⊢
  obtain ⟨R, hR⟩ : ∃ R, R = (blk bm (.cells #[ptr mp] 29 (0, 0)) * (blk bn (.cells #[.string nm] 9 (0, 0)) * (blk mp (.cells #[ptr p, j, .int .u32 (num : Int), .int .i64 (many : Int), fs, .slice none 0 0, .slice none 0 0, .int .u32 (k.1 : Int), .int .u32 (k.2.1 : Int), .int .u64 (k.2.2 : Int), .bool true] 59 (0, 0)) * F))) := ⟨_, rfl⟩
  have HSZ : Hid (nm.size = nm.data.toList.length) := (Array.length_toList).symm
  rcases Nat.lt_or_ge (leftOf D) nm.size with hl | hl
  · have HA : Hid (∀ (u : World) (X : Asn) (A : Option Addr) (c : Nat), Mod u w0 (X * (diskA p D * R)) → Calls Tryz.prog 50 #[ptr p, .string nNew, .slice A nm.size c] u fun e w' => e = .returned (.int .i64 6) ∧ Mod w' w0 (diskA p D * R)) := fun u X A c mu =>
      (append_full p D nNew u w0 _ (X * R) mu ⟨sep_left_comm _ _ _⟩ (by decide) A nm.size c g ⟨[], 0⟩ ok_New hg hf (by omega) (.inl hl)).mono fun e w' ⟨h1, h2⟩ => ⟨h1, Mod.drop (A := X) (m := Mod.to (m := h2) (by ac_rfl))⟩
    rw [← hR] at m ⊢
    have HRR := Lib.hid hR
    have h1 : Has R bm (.cells #[ptr mp] 29 (0, 0)) := by rw [hR]; infer_instance
    have h2 : Has R bn (.cells #[.string nm] 9 (0, 0)) := by rw [hR]; infer_instance
    have h3 : Has R mp (.cells #[ptr p, j, .int .u32 (num : Int), .int .i64 (many : Int), fs, .slice none 0 0, .slice none 0 0, .int .u32 (k.1 : Int), .int .u32 (k.2.1 : Int), .int .u64 (k.2.2 : Int), .bool true] 59 (0, 0)) := by rw [hR]; infer_instance
    clear hR hg hf
    go_enter Tryz.func49, Tryz.ntmps49
    go_wp2_with fail
    go_region_with (go_at_call 50; refine (HA.out _ _ _ _ inferInstance).mono ?_; rintro e w5 ⟨rfl, m5⟩)
    all_goals (go_wp2_with fail)
    all_goals go_ret
    all_goals exact .inr ⟨hl, rfl, m5⟩
  · have HA : Hid (∀ (u : World) (X : Asn) (A : Option Addr) (c : Nat), Mod u w0 (X * (diskA p D * R)) → Reads X A nm.size (u8s nm.data.toList) → Calls Tryz.prog 50 #[ptr p, .string nNew, .slice A nm.size c] u fun e w' => e = .returned (.int .i64 0) ∧ Mod w' w0 (diskA p { D with files := fset D.files g ⟨nm.data.toList, 0⟩ } * R)) := fun u X A c mu r => by
      rw [HSZ.out] at r ⊢
      have := append_ok p D nNew u w0 _ (X * R) mu ⟨sep_left_comm _ _ _⟩ (by decide) A c nm.data.toList (r := Reads.left X R A _ _) g ⟨[], 0⟩ ok_New hg hf (by rw [← HSZ.out]; exact hl) (by show 0 + _ ≤ _; rw [← HSZ.out]; omega)
      exact this.mono fun e w' ⟨h1, h2⟩ => ⟨h1, Mod.drop (A := X) (m := Mod.to (m := h2) (sep_left_comm _ _ _))⟩
    rw [← hR] at m ⊢
    have HRR := Lib.hid hR
    have h1 : Has R bm (.cells #[ptr mp] 29 (0, 0)) := by rw [hR]; infer_instance
    have h2 : Has R bn (.cells #[.string nm] 9 (0, 0)) := by rw [hR]; infer_instance
    have h3 : Has R mp (.cells #[ptr p, j, .int .u32 (num : Int), .int .i64 (many : Int), fs, .slice none 0 0, .slice none 0 0, .int .u32 (k.1 : Int), .int .u32 (k.2.1 : Int), .int .u64 (k.2.2 : Int), .bool true] 59 (0, 0)) := by rw [hR]; infer_instance
    clear hR hg hf
    go_enter Tryz.func49, Tryz.ntmps49
    go_wp2_with fail
    go_region_with (go_at_call 50; refine (HA.out _ _ _ _ inferInstance inferInstance).mono ?_; rintro e w5 ⟨rfl, m5⟩)
    all_goals (go_wp2_with fail)
    all_goals go_ret
    all_goals exact .inl ⟨hl, rfl, m5⟩
set_option maxHeartbeats 4000000 in
theorem undo_none (m : Mod w w0 (diskA p D * (blk be (.cells #[.int .i64 0] 26 (0, 0)) * F))) (u : FrameMode) :
    CallsD Tryz.prog 44 #[ptr be, ptr bm, ptr bn] u w fun e u' w' => u' = u ∧ e = .returned (.tuple #[]) ∧ Mod w' w0 (diskA p D * (blk be (.cells #[.int .i64 0] 26 (0, 0)) * F)) := by
  go_enter_d Tryz.func44, Tryz.ntmps44
  go_wp2_with fail
  go_end0
  exact ⟨rfl, m⟩
set_option maxHeartbeats 4000000 in
theorem undo_some (nm : ByteArray) (e0 : Int) (m : Mod w w0 (diskA p D * (blk be (.cells #[.int .i64 e0] 26 (0, 0)) * (blk bm (.cells #[ptr mp] 29 (0, 0)) * (blk bn (.cells #[.string nm] 9 (0, 0)) * (mfA mp p j num many fs k * F)))))) (he : e0 ≠ 0) (hn : nameOk nm = true) (u : FrameMode) :
    CallsD Tryz.prog 44 #[ptr be, ptr bm, ptr bn] u w fun e u' w' => u' = u ∧ e = .returned (.tuple #[]) ∧ Mod w' w0 (diskA p ⟨D.size, mdel (mdel D.now nm) nNew, mdel (mdel D.now nm) nNew, D.files⟩ * (blk be (.cells #[.int .i64 6] 26 (0, 0)) * (blk bm (.cells #[ptr mp] 29 (0, 0)) * (blk bn (.cells #[.string nm] 9 (0, 0)) * (mfA mp p j num many fs k * F))))) := by
  unfold mfA at m ⊢
  have b : (e0 == 0) = false := beq_eq_false_iff_ne.2 he
  have H1 := Lib.hid (fun (u : World) (X : Asn) (mu : Mod u w0 (diskA p D * X)) => gone_spec p D nm u w0 X mu hn)
  have H2 := Lib.hid (fun (u : World) (X : Asn) (mu : Mod u w0 (diskA p { D with now := mdel D.now nm } * X)) => gone_spec p { D with now := mdel D.now nm } nNew u w0 X mu ok_New)
  have H3 := Lib.hid (fun (u : World) (X : Asn) (mu : Mod u w0 (diskA p ⟨D.size, mdel (mdel D.now nm) nNew, D.sure, D.files⟩ * X)) => names_spec p ⟨D.size, mdel (mdel D.now nm) nNew, D.sure, D.files⟩ u w0 _ X mu ⟨rfl⟩)
  go_enter_d Tryz.func44, Tryz.ntmps44
  go_wp2_with fail
  obtain ⟨SS, hSS, mSS⟩ : ∃ SS, SS = _ ∧ Mod w w0 SS := ⟨_, rfl, m⟩
  have h1 : Has SS bm (.cells #[ptr mp] 29 (0, 0)) := by rw [hSS]; infer_instance
  have h2 : Has SS bn (.cells #[.string nm] 9 (0, 0)) := by rw [hSS]; infer_instance
  have h3 : Has SS mp (.cells #[ptr p, j, .int .u32 (num : Int), .int .i64 (many : Int), fs, .slice none 0 0, .slice none 0 0, .int .u32 (k.1 : Int), .int .u32 (k.2.1 : Int), .int .u64 (k.2.2 : Int), .bool true] 59 (0, 0)) := by rw [hSS]; infer_instance
  have HSS := Lib.hid hSS
  clear hSS
  have := Held.some mSS
  refine wp_region_mod_tail 5 mSS (by kernel_rfl) (by kernel_rfl) ?_
  simp only [List.take_succ_cons, List.take_zero, List.drop_succ_cons, List.drop_zero]
  repeat (go_big_quiet_step (fail))
  refine wpQuiet_nil ?_
  rintro w5 ⟨s, rfl⟩
  have m5 := Mod.to (m := s.mod) HSS.out
  clear mSS h1 h2 h3 HSS this m
  generalize s.world = w5 at *
  go_wp2_with fail
  refine (H1.out _ _ m5).mono ?_
  rintro e w6 ⟨r6, rfl, m6⟩
  go_wp2_with fail
  refine (H2.out _ _ m6).mono ?_
  rintro e w7 ⟨r7, rfl, m7⟩
  go_wp2_with fail
  refine (H3.out _ _ m7).mono ?_
  rintro e w8 ⟨rfl, m8⟩
  go_wp2_with fail
  go_end0
  have m9 := Mod.setCells (w := w8) (m := m8) (g := be) (i := 0) (.int .i64 6) (cs := #[.int .i64 e0]) (ty := 26) (fr := (0, 0)) (t := inferInstance)
  rw [emp_sep] at m9
  exact ⟨rfl, Mod.to (m := m9) (sep_left_comm _ _ _)⟩
end
end Go.Proofs.YtmhlebpchllpbaaGreatDoor
namespace Go.Proofs.YtmhlebpchllpbaaGreatDoor
open Go.RowKit Go.Sl
/-- What begin holds beside the disk and its journal: its error, the boxes of m and of the name, the manifest. -/
def begY (be bm bn mp p : Nat) (nm : ByteArray) (j : Value) (num many : Nat) (fs : Value) (k : Nat × Nat × Nat) (e0 : Int) (F : Asn) : Asn :=
  blk be (.cells #[.int .i64 e0] 26 (0, 0)) * (blk bm (.cells #[ptr mp] 29 (0, 0)) * (blk bn (.cells #[.string nm] 9 (0, 0)) * (mfA mp p j num many fs k * F)))
/-- May all of it be laid on the disk? -/
def FineJ (D : DiskSt) (nm : ByteArray) (rs : List (List UInt8)) : Prop := (∀ r ∈ rs, r.length ≤ 65536) ∧ (journal [] rs).length ≤ 1048576 ∧ (journal [] rs).length + nm.size ≤ leftOf D
theorem used_beg {D : DiskSt} {nm : ByteArray} {b : List UInt8} {g1 g2 : Nat} (hok : DiskOk D) (h1 : mget D.now nm = none) (hg : fget D.files g1 = none) : leftOf (begD D nm b g1 g2 0) = leftOf D - b.length := by
  show D.size - total ((g1, ⟨b, 0⟩) :: D.files) (mput D.now nm g1) = D.size - total D.files D.now - b.length
  rw [total_new (f := ⟨b, 0⟩) hok h1 hg]
  show D.size - (_ + b.length) = _
  omega
theorem beg_fset (D : DiskSt) (nm : ByteArray) (b b' : List UInt8) (g1 g2 : Nat) : ({ begD D nm b g1 g2 0 with files := fset (begD D nm b g1 g2 0).files g1 ⟨b', 0⟩ } : DiskSt) = begD D nm b' g1 g2 0 := by
  simp [begD, fset]
theorem not_fine {D : DiskSt} {nm : ByteArray} {rs : List (List UInt8)} {i g1 g2 : Nat} (hok : DiskOk D) (h1 : mget D.now nm = none) (hg : fget D.files g1 = none) (hi : i < rs.length)
    (h : ¬ fitsJ (begD D nm (journal [] (rs.take i)) g1 g2 0) (journal [] (rs.take i)).length rs[i]) : ¬ FineJ D nm rs := by
  intro hf
  apply h
  have e2 : journal [] (rs.take (i + 1)) = journal [] (rs.take i) ++ writ (journal [] (rs.take i)).length true rs[i] := by rw [List.take_succ_eq_append_getElem hi, journal_snoc]
  have hm := journal_mono rs (show i + 1 ≤ rs.length from hi)
  rw [List.take_length, e2, List.length_append] at hm
  refine ⟨hf.1 _ (List.getElem_mem hi), ?_, ?_⟩
  · rw [used_beg hok h1 hg]
    have := hf.2.2
    omega
  · have := hf.2.1
    omega
/-- What is left where begin comes to nothing: the disk, and perhaps the new journal and "m-new". -/
structure BadD (D D' : DiskSt) (nm : ByteArray) : Prop where
  over : Over D D'
  now : mdel (mdel D'.now nm) nNew = D.now
theorem mdel_mput {L : Dir} {s : ByteArray} (g : Nat) (h : mget L s = none) : mdel (mput L s g) s = L := by
  rw [mput_new h]
  unfold mdel
  rw [List.filter_append]
  have h1 : L.filter (fun p => !decide (p.1 = s)) = L := mdel_not h
  rw [h1]; simp
theorem mdel_comm (L : Dir) (s t : ByteArray) : mdel (mdel L s) t = mdel (mdel L t) s := by
  unfold mdel
  rw [List.filter_filter, List.filter_filter]
  exact List.filter_congr fun q _ => Bool.and_comm _ _
theorem bad_zero {D : DiskSt} {nm : ByteArray} {b : List UInt8} {g1 g2 : Nat} (h1 : mget D.now nm = none) (h2 : mget D.now nNew = none) (hg : fget D.files g1 = none) : BadD D (begD D nm b g1 g2 0) nm :=
  ⟨⟨rfl, fun _ _ h => fget_over hg _ _ _ h⟩, by show mdel (mdel (mput D.now nm g1) nm) nNew = _; rw [mdel_mput g1 h1, mdel_not h2]⟩
theorem bad_two {D : DiskSt} {nm : ByteArray} {b : List UInt8} {g1 g2 : Nat} (h1 : mget D.now nm = none) (h2 : mget D.now nNew = none) (hne : nNew ≠ nm) (hg : fget D.files g1 = none) (hg2 : fget ((g1, (⟨b, b.length⟩ : FileSt)) :: D.files) g2 = none) : BadD D (begD D nm b g1 g2 2) nm :=
  ⟨⟨rfl, fun _ _ h => fget_over hg2 _ _ _ (fget_over hg _ _ _ h)⟩, by
    show mdel (mdel (mput (mput D.now nm g1) nNew g2) nm) nNew = _
    rw [mdel_comm, mdel_mput g2 (by rw [mget_mput, if_neg hne]; exact h2), mdel_mput g1 h1]⟩
section
variable (be bm bn mp p jj : Nat) (nm : ByteArray) (j : Value) (num many : Nat) (fs : Value) (k : Nat × Nat × Nat) (D : DiskSt) (b : List UInt8) (g1 g2 : Nat) (w w0 : World) (F : Asn)
abbrev begS (be bm bn mp p jj : Nat) (nm : ByteArray) (j : Value) (num many : Nat) (fs : Value) (k : Nat × Nat × Nat) (en : Nat) (D : DiskSt) (e0 : Int) (F : Asn) : Asn := diskA p D * (jourA jj p nm en * begY be bm bn mp p nm j num many fs k e0 F)
theorem begS_steps (en : Nat) (e0 : Int) (D : DiskSt) : begS be bm bn mp p jj nm j num many fs k en D e0 F = diskA p D * (blk bm (.cells #[ptr mp] 29 (0, 0)) * (mfA mp p j num many fs k * (jourA jj p nm en * (blk be (.cells #[.int .i64 e0] 26 (0, 0)) * (blk bn (.cells #[.string nm] 9 (0, 0)) * F))))) := by
  unfold begS begY; ac_rfl
theorem begS_step3 (en : Nat) (e0 : Int) (D : DiskSt) : begS be bm bn mp p jj nm j num many fs k en D e0 F = diskA p D * (blk bm (.cells #[ptr mp] 29 (0, 0)) * (blk bn (.cells #[.string nm] 9 (0, 0)) * (mfA mp p j num many fs k * (jourA jj p nm en * (blk be (.cells #[.int .i64 e0] 26 (0, 0)) * F))))) := by
  unfold begS begY; ac_rfl
theorem begS_undo (en : Nat) (e0 : Int) (D : DiskSt) : begS be bm bn mp p jj nm j num many fs k en D e0 F = diskA p D * (blk be (.cells #[.int .i64 e0] 26 (0, 0)) * (blk bm (.cells #[ptr mp] 29 (0, 0)) * (blk bn (.cells #[.string nm] 9 (0, 0)) * (mfA mp p j num many fs k * (jourA jj p nm en * F))))) := by
  unfold begS begY; ac_rfl
variable (hne : nNew ≠ nm) (hnok : nameOk nm = true) (h2 : mget D.now nNew = none) (hroom : D.now.length ≤ 61)
include hnok in
theorem beg0 (m : Mod w w0 (begS be bm bn mp p jj nm j num many fs k b.length (begD D nm b g1 g2 0) 0 F)) :
    Calls Tryz.prog 34 #[ptr jj] w fun e w' => e = .returned (.int .i64 0) ∧ Mod w' w0 (begS be bm bn mp p jj nm j num many fs k b.length (begD D nm b g1 g2 1) 0 F) := by
  have hs : nm.size ≤ 9223372036854775807 := by have := named_size hnok; omega
  have hg : mget (begD D nm b g1 g2 0).now nm = some g1 := by show mget (mput D.now nm g1) nm = _; rw [mget_mput, if_pos rfl]
  have hf : fget (begD D nm b g1 g2 0).files g1 = some ⟨b, 0⟩ := by simp [begD, fget]
  refine (jsync_some jj p (begD D nm b g1 g2 0) nm w w0 _ b.length m hs hnok g1 ⟨b, 0⟩ hg hf).mono fun e w' ⟨q1, q2⟩ => ⟨q1, ?_⟩
  have e : ({ begD D nm b g1 g2 0 with files := fset (begD D nm b g1 g2 0).files g1 ⟨b, b.length⟩ } : DiskSt) = begD D nm b g1 g2 1 := by simp [begD, fset]
  rw [← e]; exact q2
include hne h2 hroom in
theorem beg1 (m : Mod w w0 (begS be bm bn mp p jj nm j num many fs k b.length (begD D nm b g1 g2 1) 0 F)) :
    Calls Tryz.prog 47 #[ptr bm] w fun e w' => ∃ g, e = .returned (.int .i64 0) ∧ fget ((g1, (⟨b, b.length⟩ : FileSt)) :: D.files) g = none ∧ Mod w' w0 (begS be bm bn mp p jj nm j num many fs k b.length (begD D nm b g1 g 2) 0 F) := by
  rw [begS_steps] at m
  have hg : mget (begD D nm b g1 g2 1).now nNew = none := by show mget (mput D.now nm g1) nNew = _; rw [mget_mput, if_neg hne]; exact h2
  have hr : (begD D nm b g1 g2 1).now.length < 64 := by have := mput_length_le D.now nm g1; show (mput D.now nm g1).length < 64; omega
  refine (step2_spec bm mp p j num many fs k _ w w0 _ m hg hr).mono fun e w' ⟨g, q1, q2, q3⟩ => ⟨g, q1, q2, ?_⟩
  rw [begS_steps]; exact q3
theorem beg2 (m : Mod w w0 (begS be bm bn mp p jj nm j num many fs k b.length (begD D nm b g1 g2 2) 0 F)) (hnm : nm.size ≤ 1000) :
    Calls Tryz.prog 49 #[ptr bm, ptr bn] w fun e w' => (nm.size ≤ leftOf (begD D nm b g1 g2 2) ∧ e = .returned (.int .i64 0) ∧ Mod w' w0 (begS be bm bn mp p jj nm j num many fs k b.length (begD D nm b g1 g2 3) 0 F)) ∨
      (leftOf (begD D nm b g1 g2 2) < nm.size ∧ e = .returned (.int .i64 6) ∧ Mod w' w0 (begS be bm bn mp p jj nm j num many fs k b.length (begD D nm b g1 g2 2) 0 F)) := by
  rw [begS_step3] at m
  have hg : mget (begD D nm b g1 g2 2).now nNew = some g2 := by show mget (mput _ nNew g2) nNew = _; rw [mget_mput, if_pos rfl]
  have hf : fget (begD D nm b g1 g2 2).files g2 = some ⟨[], 0⟩ := by simp [begD, fget]
  have e : ({ begD D nm b g1 g2 2 with files := fset (begD D nm b g1 g2 2).files g2 ⟨nm.data.toList, 0⟩ } : DiskSt) = begD D nm b g1 g2 3 := by simp [begD, fset]
  refine (step3_spec bm bn mp p j num many fs k _ w w0 _ nm m g2 hg hf hnm).mono fun e' w' h => ?_
  rcases h with ⟨q0, q1, q2⟩ | ⟨q0, q1, q2⟩
  · refine .inl ⟨q0, q1, ?_⟩
    rw [begS_step3, ← e]; exact q2
  · refine .inr ⟨q0, q1, ?_⟩
    rw [begS_step3]; exact q2
theorem beg3 (m : Mod w w0 (begS be bm bn mp p jj nm j num many fs k b.length (begD D nm b g1 g2 3) 0 F)) :
    Calls Tryz.prog 51 #[ptr bm] w fun e w' => e = .returned (.int .i64 0) ∧ Mod w' w0 (begS be bm bn mp p jj nm j num many fs k b.length (begD D nm b g1 g2 4) 0 F) := by
  rw [begS_steps] at m
  have hg : mget (begD D nm b g1 g2 3).now nNew = some g2 := by show mget (mput _ nNew g2) nNew = _; rw [mget_mput, if_pos rfl]
  have hf : fget (begD D nm b g1 g2 3).files g2 = some ⟨nm.data.toList, 0⟩ := by simp [begD, fget]
  have e : ({ begD D nm b g1 g2 3 with files := fset (begD D nm b g1 g2 3).files g2 ⟨nm.data.toList, nm.data.toList.length⟩ } : DiskSt) = begD D nm b g1 g2 4 := by simp [begD, fset]
  refine (step4_spec bm mp p j num many fs k _ w w0 _ m g2 _ hg hf).mono fun e' w' ⟨q1, q2⟩ => ⟨q1, ?_⟩
  rw [begS_steps, ← e]; exact q2
theorem beg4 (m : Mod w w0 (begS be bm bn mp p jj nm j num many fs k b.length (begD D nm b g1 g2 4) 0 F)) :
    Calls Tryz.prog 46 #[ptr p] w fun e w' => e = .returned (.int .i64 0) ∧ Mod w' w0 (begS be bm bn mp p jj nm j num many fs k b.length (begD D nm b g1 g2 5) 0 F) :=
  (names_spec p _ w w0 _ _ m ⟨rfl⟩).mono fun _ _ h => h
theorem beg5 (m : Mod w w0 (begS be bm bn mp p jj nm j num many fs k b.length (begD D nm b g1 g2 5) 0 F)) :
    Calls Tryz.prog 53 #[ptr bm] w fun e w' => e = .returned (.int .i64 0) ∧ Mod w' w0 (begS be bm bn mp p jj nm j num many fs k b.length (begD D nm b g1 g2 6) 0 F) := by
  rw [begS_steps] at m
  have hg : mget (begD D nm b g1 g2 5).now nNew = some g2 := by show mget (mput _ nNew g2) nNew = _; rw [mget_mput, if_pos rfl]
  refine (step5_spec bm mp p j num many fs k _ w w0 _ m g2 hg).mono fun e' w' ⟨q1, q2⟩ => ⟨q1, ?_⟩
  rw [begS_steps]; exact q2
theorem beg6 (m : Mod w w0 (begS be bm bn mp p jj nm j num many fs k b.length (begD D nm b g1 g2 6) 0 F)) :
    Calls Tryz.prog 46 #[ptr p] w fun e w' => e = .returned (.int .i64 0) ∧ Mod w' w0 (begS be bm bn mp p jj nm j num many fs k b.length (begD D nm b g1 g2 7) 0 F) :=
  (names_spec p _ w w0 _ _ m ⟨rfl⟩).mono fun _ _ h => h
theorem begS_store (en : Nat) (e0 e1 : Int) (D1 : DiskSt) (m : Mod w w0 (begS be bm bn mp p jj nm j num many fs k en D1 e0 F)) :
    Mod (w.setCell ⟨be, 0, none⟩ (.int .i64 e1)) w0 (begS be bm bn mp p jj nm j num many fs k en D1 e1 F) := by
  rw [begS_undo] at m
  have m9 := Mod.setCells (w := w) (m := m) (g := be) (i := 0) (.int .i64 e1) (cs := #[.int .i64 e0]) (ty := 26) (fr := (0, 0)) (t := inferInstance)
  rw [emp_sep] at m9
  rw [begS_undo]
  exact Mod.to (m := m9) (sep_left_comm _ _ _)
end
/-- Behind i records. -/
def St1 (D : DiskSt) (nm : ByteArray) (rs : List (List UInt8)) (g1 i : Nat) (e0 : Int) (en : Nat) (D1 : DiskSt) : Prop :=
  (e0 = 0 ∧ en = (journal [] (rs.take i)).length ∧ D1 = begD D nm (journal [] (rs.take i)) g1 0 0 ∧ ∀ r ∈ rs.take i, r.length ≤ 65536) ∨ (e0 ≠ 0 ∧ BadD D D1 nm ∧ ¬ FineJ D nm rs)
/-- Behind i of the steps. -/
def St2 (D : DiskSt) (nm : ByteArray) (rs : List (List UInt8)) (g1 i : Nat) (e0 : Int) (en : Nat) (D1 : DiskSt) : Prop :=
  (e0 = 0 ∧ en = (journal [] rs).length ∧ ∃ g2, (2 ≤ i → fget ((g1, (⟨journal [] rs, (journal [] rs).length⟩ : FileSt)) :: D.files) g2 = none) ∧ D1 = begD D nm (journal [] rs) g1 g2 i ∧ ∀ r ∈ rs, r.length ≤ 65536) ∨ (e0 ≠ 0 ∧ BadD D D1 nm ∧ ¬ FineJ D nm rs)
theorem St1.next {D : DiskSt} {nm : ByteArray} {rs : List (List UInt8)} {g1 i i' : Nat} {e0 : Int} {en : Nat} {D1 : DiskSt} (h : St1 D nm rs g1 i e0 en D1) (he : e0 ≠ 0) : St1 D nm rs g1 i' e0 en D1 := h.elim (fun h => absurd h.1 he) .inr
theorem St2.next {D : DiskSt} {nm : ByteArray} {rs : List (List UInt8)} {g1 i i' : Nat} {e0 : Int} {en : Nat} {D1 : DiskSt} (h : St2 D nm rs g1 i e0 en D1) (he : e0 ≠ 0) : St2 D nm rs g1 i' e0 en D1 := h.elim (fun h => absurd h.1 he) .inr
theorem St1.last {D : DiskSt} {nm : ByteArray} {rs : List (List UInt8)} {g1 i : Nat} {e0 : Int} {en : Nat} {D1 : DiskSt} (h : St1 D nm rs g1 i e0 en D1) (hi : i = rs.length) : St2 D nm rs g1 0 e0 en D1 := by
  subst hi
  rcases h with ⟨h1, h2, h3, h4⟩ | h
  · rw [List.take_length] at h2 h3 h4
    exact .inl ⟨h1, h2, 0, fun h => by omega, h3, h4⟩
  · exact .inr h
section
variable (be bm bn mp p jj : Nat) (nm : ByteArray) (j : Value) (num many : Nat) (fs : Value) (k : Nat × Nat × Nat) (D : DiskSt) (rs : List (List UInt8)) (g1 : Nat) (w w0 : World) (F : Asn)
variable (hok : DiskOk D) (hnok : nameOk nm = true) (h1 : mget D.now nm = none) (h2 : mget D.now nNew = none) (hne : nNew ≠ nm) (hroom : D.now.length ≤ 61) (hg1 : fget D.files g1 = none)
def StepSays (e : Ending) (w' : World) (Q : Int → Nat → DiskSt → Prop) : Prop := ∃ (e1 : Int) (en : Nat) (D2 : DiskSt), e = .returned (.int .i64 e1) ∧ Q e1 en D2 ∧ Mod w' w0 (begS be bm bn mp p jj nm j num many fs k en D2 0 F)
include hok hnok h1 h2 hg1 in
theorem st1_add {i : Nat} (hi : i < rs.length) {en : Nat} {D1 : DiskSt} (h : St1 D nm rs g1 i 0 en D1) (m : Mod w w0 (begS be bm bn mp p jj nm j num many fs k en D1 0 F)) (B : Option Addr) (c : Nat) (r : Reads F B rs[i].length (u8s rs[i])) (hc : rs[i].length ≤ c) :
    Calls Tryz.prog 33 #[ptr jj, .slice B rs[i].length c] w fun e w' => StepSays be bm bn mp p jj nm j num many fs k w0 F e w' (St1 D nm rs g1 (i + 1)) := by
  rcases h with ⟨_, rfl, rfl, hsm⟩ | h
  · have hs : nm.size ≤ 9223372036854775807 := by have := named_size hnok; omega
    have hg : mget (begD D nm (journal [] (rs.take i)) g1 0 0).now nm = some g1 := by show mget (mput D.now nm g1) nm = _; rw [mget_mput, if_pos rfl]
    have hf : fget (begD D nm (journal [] (rs.take i)) g1 0 0).files g1 = some ⟨journal [] (rs.take i), 0⟩ := by simp [begD, fget]
    have e2 : journal [] (rs.take (i + 1)) = journal [] (rs.take i) ++ writ (journal [] (rs.take i)).length true rs[i] := by rw [List.take_succ_eq_append_getElem hi, journal_snoc]
    have hb : (journal [] (rs.take i)).length ≤ 1048576 := (okOf (F := jourA jj p nm (journal [] (rs.take i)).length * begY be bm bn mp p nm j num many fs k 0 F) m ⟨rfl⟩).len (g1, ⟨journal [] (rs.take i), 0⟩) (List.mem_cons_self ..)
    have rY : Reads (begY be bm bn mp p nm j num many fs k 0 F) B rs[i].length (u8s rs[i]) := by unfold begY; exact reads_lift inferInstance r
    refine (add_any jj p (begD D nm (journal [] (rs.take i)) g1 0 0) nm w w0 _ B c rs[i] g1 ⟨journal [] (rs.take i), 0⟩ hs hnok hg hf m rY hc hb).mono fun e w' h => ?_
    rcases h with ⟨q0, q1, q2⟩ | ⟨q0, r', q3, q1, q2⟩
    · refine ⟨0, _, _, q1, .inl ⟨rfl, rfl, rfl, fun r hr => ?_⟩, ?_⟩
      · rw [List.take_succ_eq_append_getElem hi, List.mem_append, List.mem_singleton] at hr
        rcases hr with hr | rfl
        · exact hsm r hr
        · exact q0.1
      rw [e2, ← beg_fset D nm (journal [] (rs.take i))]
      exact q2
    · exact ⟨r', _, _, q1, .inr ⟨by omega, bad_zero h1 h2 hg1, not_fine hok h1 hg1 hi q0⟩, q2⟩
  · exact absurd rfl h.1
include hnok in
theorem st2_0 {en : Nat} {D1 : DiskSt} (h : St2 D nm rs g1 0 0 en D1) (m : Mod w w0 (begS be bm bn mp p jj nm j num many fs k en D1 0 F)) :
    Calls Tryz.prog 34 #[ptr jj] w fun e w' => StepSays be bm bn mp p jj nm j num many fs k w0 F e w' (St2 D nm rs g1 1) := by
  rcases h with ⟨_, rfl, g2, hg2, rfl, hsm⟩ | h
  · exact (beg0 be bm bn mp p jj nm j num many fs k D _ g1 g2 w w0 F hnok m).mono fun e w' ⟨q1, q2⟩ => ⟨0, _, _, q1, .inl ⟨rfl, rfl, g2, fun h => by omega, rfl, hsm⟩, q2⟩
  · exact absurd rfl h.1
include hne h2 hroom in
theorem st2_1 {en : Nat} {D1 : DiskSt} (h : St2 D nm rs g1 1 0 en D1) (m : Mod w w0 (begS be bm bn mp p jj nm j num many fs k en D1 0 F)) :
    Calls Tryz.prog 47 #[ptr bm] w fun e w' => StepSays be bm bn mp p jj nm j num many fs k w0 F e w' (St2 D nm rs g1 2) := by
  rcases h with ⟨_, rfl, g2, hg2, rfl, hsm⟩ | h
  · exact (beg1 be bm bn mp p jj nm j num many fs k D _ g1 g2 w w0 F hne h2 hroom m).mono fun e w' ⟨g, q1, q0, q2⟩ => ⟨0, _, _, q1, .inl ⟨rfl, rfl, g, fun _ => q0, rfl, hsm⟩, q2⟩
  · exact absurd rfl h.1
include hok h1 h2 hne hg1 in
theorem st2_2 {en : Nat} {D1 : DiskSt} (h : St2 D nm rs g1 2 0 en D1) (m : Mod w w0 (begS be bm bn mp p jj nm j num many fs k en D1 0 F)) (hnm : nm.size ≤ 1000) :
    Calls Tryz.prog 49 #[ptr bm, ptr bn] w fun e w' => StepSays be bm bn mp p jj nm j num many fs k w0 F e w' (St2 D nm rs g1 3) := by
  rcases h with ⟨_, rfl, g2, hg2, rfl, hsm⟩ | h
  · refine (beg2 be bm bn mp p jj nm j num many fs k D _ g1 g2 w w0 F m hnm).mono fun e w' h => ?_
    rcases h with ⟨_, q1, q2⟩ | ⟨q0, q1, q2⟩
    · exact ⟨0, _, _, q1, .inl ⟨rfl, rfl, g2, fun _ => hg2 (Nat.le_refl _), rfl, hsm⟩, q2⟩
    · refine ⟨6, _, _, q1, .inr ⟨by decide, bad_two h1 h2 hne hg1 (hg2 (Nat.le_refl _)), fun hf => ?_⟩, q2⟩
      have e : leftOf (begD D nm (journal [] rs) g1 g2 2) = leftOf D - (journal [] rs).length := by
        have hn2 : mget (mput D.now nm g1) nNew = none := by rw [mget_mput, if_neg hne]; exact h2
        show D.size - total ((g2, ⟨[], 0⟩) :: (g1, ⟨journal [] rs, (journal [] rs).length⟩) :: D.files) (mput (mput D.now nm g1) nNew g2) = D.size - total D.files D.now - (journal [] rs).length
        have hnot : g2 ∉ (mput D.now nm g1).map (·.2) := by
          intro hm
          obtain ⟨q, hq, hqg⟩ := List.mem_map.1 hm
          rw [mput_new h1, List.mem_append, List.mem_singleton] at hq
          have h0 := hg2 (Nat.le_refl _)
          simp only [fget] at h0
          split at h0
          · cases h0
          · rename_i hne12
            rcases hq with hq | rfl
            · have := hok.now q hq
              rw [hqg, h0] at this; cases this
            · exact hne12 hqg
        rw [mput_new hn2, total_append, total_cons _ _ _ _ hnot, total_new (f := ⟨journal [] rs, (journal [] rs).length⟩) hok h1 hg1]
        simp only [total, fget, if_pos, Option.map_some, Option.getD_some, List.length_nil, Nat.add_zero]
        omega
      rw [e] at q0
      have := hf.2.2
      omega
  · exact absurd rfl h.1
theorem st2_3 {en : Nat} {D1 : DiskSt} (h : St2 D nm rs g1 3 0 en D1) (m : Mod w w0 (begS be bm bn mp p jj nm j num many fs k en D1 0 F)) :
    Calls Tryz.prog 51 #[ptr bm] w fun e w' => StepSays be bm bn mp p jj nm j num many fs k w0 F e w' (St2 D nm rs g1 4) := by
  rcases h with ⟨_, rfl, g2, hg2, rfl, hsm⟩ | h
  · exact (beg3 be bm bn mp p jj nm j num many fs k D _ g1 g2 w w0 F m).mono fun e w' ⟨q1, q2⟩ => ⟨0, _, _, q1, .inl ⟨rfl, rfl, g2, fun _ => hg2 (by omega), rfl, hsm⟩, q2⟩
  · exact absurd rfl h.1
theorem st2_4 {en : Nat} {D1 : DiskSt} (h : St2 D nm rs g1 4 0 en D1) (m : Mod w w0 (begS be bm bn mp p jj nm j num many fs k en D1 0 F)) :
    Calls Tryz.prog 46 #[ptr p] w fun e w' => StepSays be bm bn mp p jj nm j num many fs k w0 F e w' (St2 D nm rs g1 5) := by
  rcases h with ⟨_, rfl, g2, hg2, rfl, hsm⟩ | h
  · exact (beg4 be bm bn mp p jj nm j num many fs k D _ g1 g2 w w0 F m).mono fun e w' ⟨q1, q2⟩ => ⟨0, _, _, q1, .inl ⟨rfl, rfl, g2, fun _ => hg2 (by omega), rfl, hsm⟩, q2⟩
  · exact absurd rfl h.1
theorem st2_5 {en : Nat} {D1 : DiskSt} (h : St2 D nm rs g1 5 0 en D1) (m : Mod w w0 (begS be bm bn mp p jj nm j num many fs k en D1 0 F)) :
    Calls Tryz.prog 53 #[ptr bm] w fun e w' => StepSays be bm bn mp p jj nm j num many fs k w0 F e w' (St2 D nm rs g1 6) := by
  rcases h with ⟨_, rfl, g2, hg2, rfl, hsm⟩ | h
  · exact (beg5 be bm bn mp p jj nm j num many fs k D _ g1 g2 w w0 F m).mono fun e w' ⟨q1, q2⟩ => ⟨0, _, _, q1, .inl ⟨rfl, rfl, g2, fun _ => hg2 (by omega), rfl, hsm⟩, q2⟩
  · exact absurd rfl h.1
theorem st2_6 {en : Nat} {D1 : DiskSt} (h : St2 D nm rs g1 6 0 en D1) (m : Mod w w0 (begS be bm bn mp p jj nm j num many fs k en D1 0 F)) :
    Calls Tryz.prog 46 #[ptr p] w fun e w' => StepSays be bm bn mp p jj nm j num many fs k w0 F e w' (St2 D nm rs g1 7) := by
  rcases h with ⟨_, rfl, g2, hg2, rfl, hsm⟩ | h
  · exact (beg6 be bm bn mp p jj nm j num many fs k D _ g1 g2 w w0 F m).mono fun e w' ⟨q1, q2⟩ => ⟨0, _, _, q1, .inl ⟨rfl, rfl, g2, fun _ => hg2 (by omega), rfl, hsm⟩, q2⟩
  · exact absurd rfl h.1
end
section
variable (be bm bn mp p jj : Nat) (nm : ByteArray) (j : Value) (num many : Nat) (fs : Value) (k : Nat × Nat × Nat) (en : Nat) (D1 : DiskSt) (e0 : Int) (w w0 : World) (F : Asn)
theorem begS_turn (j' : Value) (num' many' : Nat) (m : Mod w w0 (begS be bm bn mp p jj nm j num many fs k en D1 e0 F)) :
    Mod (((w.setCell ⟨mp, 1, none⟩ j').setCell ⟨mp, 2, none⟩ (.int .u32 (num' : Int))).setCell ⟨mp, 3, none⟩ (.int .i64 (many' : Int))) w0 (begS be bm bn mp p jj nm j' num' many' fs k en D1 e0 F) := by
  have e : ∀ (j : Value) (num many : Nat), begS be bm bn mp p jj nm j num many fs k en D1 e0 F = mfA mp p j num many fs k * (diskA p D1 * (jourA jj p nm en * (blk be (.cells #[.int .i64 e0] 26 (0, 0)) * (blk bm (.cells #[ptr mp] 29 (0, 0)) * (blk bn (.cells #[.string nm] 9 (0, 0)) * F))))) := fun j num many => by
    unfold begS begY; ac_rfl
  rw [e] at m ⊢
  unfold mfA at m
  have m1 := Mod.setCells (w := w) (m := m) (g := mp) (i := 1) j' (t := ⟨rfl⟩)
  have m2 := Mod.setCells (m := m1) (g := mp) (i := 2) (.int .u32 (num' : Int)) (t := ⟨rfl⟩)
  exact Mod.setCells (m := m2) (g := mp) (i := 3) (.int .i64 (many' : Int)) (t := ⟨rfl⟩)
theorem beg_clear (m : Mod w w0 (begS be bm bn mp p jj nm j num many fs k en D1 e0 F)) :
    Calls Tryz.prog 19 #[ptr mp, .string nm] w fun e w' => e = .returned (.tuple #[]) ∧ Mod w' w0 (begS be bm bn mp p jj nm j num many fs k en (clearD D1 nm) e0 F) := by
  have e : ∀ (D1 : DiskSt), begS be bm bn mp p jj nm j num many fs k en D1 e0 F = diskA p D1 * (mfA mp p j num many fs k * (jourA jj p nm en * (blk be (.cells #[.int .i64 e0] 26 (0, 0)) * (blk bm (.cells #[ptr mp] 29 (0, 0)) * (blk bn (.cells #[.string nm] 9 (0, 0)) * F))))) := fun D1 => by
    unfold begS begY; ac_rfl
  rw [e] at m
  refine (clear_spec mp p j num many fs k D1 nm w w0 _ m).mono fun e' w' ⟨q1, q2⟩ => ⟨q1, ?_⟩
  rw [e]; exact q2
theorem beg_undo0 (m : Mod w w0 (begS be bm bn mp p jj nm j num many fs k en D1 0 F)) (u : FrameMode) :
    CallsD Tryz.prog 44 #[ptr be, ptr bm, ptr bn] u w fun e u' w' => u' = u ∧ e = .returned (.tuple #[]) ∧ Mod w' w0 (begS be bm bn mp p jj nm j num many fs k en D1 0 F) := by
  rw [begS_undo] at m ⊢
  exact undo_none bm bn be p D1 w w0 _ m u
theorem beg_undo1 (m : Mod w w0 (begS be bm bn mp p jj nm j num many fs k en D1 e0 F)) (he : e0 ≠ 0) (hn : nameOk nm = true) (u : FrameMode) :
    CallsD Tryz.prog 44 #[ptr be, ptr bm, ptr bn] u w fun e u' w' => u' = u ∧ e = .returned (.tuple #[]) ∧ Mod w' w0 (begS be bm bn mp p jj nm j num many fs k en ⟨D1.size, mdel (mdel D1.now nm) nNew, mdel (mdel D1.now nm) nNew, D1.files⟩ 6 F) := by
  rw [begS_undo] at m ⊢
  exact undo_some bm bn be mp p j num many fs k D1 w w0 _ nm e0 m he hn u
/-- What begin leaves of its frame. -/
theorem begS_rest (m : Mod w w0 (begS be bm bn mp p jj nm j num many fs k en D1 e0 F)) : Mod w w0 (diskA p D1 * (mfA mp p j num many fs k * (jourA jj p nm en * F))) := by
  have e : begS be bm bn mp p jj nm j num many fs k en D1 e0 F = (blk be (.cells #[.int .i64 e0] 26 (0, 0)) * (blk bm (.cells #[ptr mp] 29 (0, 0)) * blk bn (.cells #[.string nm] 9 (0, 0)))) * (diskA p D1 * (mfA mp p j num many fs k * (jourA jj p nm en * F))) := by
    unfold begS begY; ac_rfl
  exact Mod.drop (m := Mod.to (m := m) e)
end
end Go.Proofs.YtmhlebpchllpbaaGreatDoor
namespace Go.Proofs.YtmhlebpchllpbaaGreatDoor
open Go.RowKit Go.Sl
section
variable {P : Program} {ops : Array Oper} {Q : Exit → Act → World → Prop} {md : Region.Mode} {S : World → Prop} {n : Nat}
theorem ready_lt {listed : Array Bool} {i : Nat} (h : i ∈ Region.ready md ops listed) : i < ops.size := by
  obtain ⟨_, o, ho, _⟩ := mem_ready.1 h
  exact (Array.getElem?_eq_some_iff.1 ho).1
theorem wpAnyS_first {i : Nat} {oi : Oper} {v : Value} (hi : ops[i]? = some oi) (hbig : ops.size ≤ n) (hsel : ∀ (j : Nat) (o : Oper) cs b, ops[j]? = some o → o.op ≠ .select cs b)
    (hQ : ∀ c a w, Q (.panic c) (a.put oi.dst v) w → Q (.panic c) a w) :
    ∀ (f : Nat) (listed : Array Bool) (a : Act) (w : World),
      (∀ j oj, ops[j]? = some oj → j ≠ i → listed.getD j true = false → (∀ e ∈ oj.after, Region.binds md e = true → e.on ≠ i) → oi.apart ops oj = true) →
      i ∈ Region.ready md ops listed → YieldsIf P ops S oi v a → S w →
      wpAnyN P md ops Q S n f (listed.setIfInBounds i true) (a.put oi.dst v) w → wpAnyN P md ops Q S n (f + 1) listed a w := by
  intro f
  induction f with
  | zero =>
    intro listed a w _ hr hy hS H
    refine ⟨fun h => (by rw [h] at hr; cases hr), fun j hj => ?_⟩
    by_cases hji : j = i
    · subst hji; exact hy.wpOp hi hS ⟨.inr hS, H⟩
    · have := ready_mono hj hji
      rw [H.1] at this
      cases this
  | succ f ih =>
    intro listed a w hfree hr hy hS H
    refine ⟨fun h => (by rw [h] at hr; cases hr), fun j hj => ?_⟩
    by_cases hji : j = i
    · subst hji; exact hy.wpOp hi hS ⟨.inr hS, H⟩
    · have hjn : j ≠ n := fun e => by have := ready_lt hj; omega
      have h1 := H.2 j (ready_mono hj hji)
      obtain ⟨hjun, oj, hoj, hall⟩ := mem_ready.1 hj
      have hnot : ∀ e ∈ oj.after, Region.binds md e = true → e.on ≠ i := fun e he hb heq => by
        have h1 := hall e he hb
        rw [heq, getD_both (mem_ready.1 hr).1] at h1
        cases h1
      have h2 := wpOp_putIf hoj (hfree j oj hoj hji hjun hnot) (fun cs b => hsel i oi cs b hi) (fun cs b => hsel j oj cs b hoj) hQ hy h1
      have hfree' : ∀ k ok, ops[k]? = some ok → k ≠ i → (listed.setIfInBounds j true).getD k true = false →
          (∀ e ∈ ok.after, Region.binds md e = true → e.on ≠ i) → oi.apart ops ok = true := fun k ok hk hki hun hno => by
        refine hfree k ok hk hki ?_ hno
        by_cases hjk : j = k
        · subst hjk; exact hjun
        · rw [getD_set_ne true hjk] at hun; exact hun
      refine wpOp_mono (fun a' w' h3 => ?_) h2
      have hS' : S w' := h3.2.1.resolve_left hjn
      refine ⟨.inr hS', ih (listed.setIfInBounds j true) a' w' hfree' (ready_mono hr (Ne.symm hji)) h3.1 hS' ?_⟩
      rw [Array.setIfInBounds_comm _ _ hji]
      exact h3.2.2
/-- Number i is taken first; the slot is handed in. -/
theorem takeS (i : Nat) (d : Option Tmp) {oi : Oper} {v : Value} {f : Nat} {listed : Array Bool} {a : Act} {w : World} (hi : ops[i]? = some oi) (hd : oi.dst = d) (hbig : decide (ops.size ≤ n) = true)
    (hs : Region.noSelect ops = true) (hf : Region.free md ops listed i = true) (hr : (Region.ready md ops listed).contains i = true)
    (hQ : ∀ c a w, Q (.panic c) (a.put oi.dst v) w → Q (.panic c) a w) (hy : YieldsIf P ops S oi v a) (hS : S w)
    (h : wpAnyN P md ops Q S n f (listed.setIfInBounds i true) (a.put d v) w) : wpAnyN P md ops Q S n (f + 1) listed a w := by
  subst hd
  exact wpAnyS_first hi (of_decide_eq_true hbig) (Region.noSelect_spec hs) hQ f listed a w (Region.free_spec hi hf) (by simpa using hr) hy hS h
/-- The one operation that is left. -/
theorem oneS (i : Nat) (d : Option Tmp) {o : Oper} {f : Nat} {listed : Array Bool} {a : Act} {w : World} (hr : Region.ready md ops listed = [i]) (ho : ops[i]? = some o) (hd : o.dst = d) (hg : o.guard = none)
    (h : ∀ K' : Act → World → Prop, (∀ v w, S w → wpAnyN P md ops Q S n f (listed.setIfInBounds i true) (a.put d v) w → K' (a.put d v) w) → Oper.wp P o a w K' Q) : wpAnyN P md ops Q S n (f + 1) listed a w := by
  refine ⟨fun h0 => (by rw [h0] at hr; cases hr), fun j hj => ?_⟩
  rw [hr] at hj
  obtain rfl := List.mem_singleton.1 hj
  subst hd
  refine wpOp_step ho (fun K' hK => ?_)
  have : Region.wanted o (yielded ops a.tmps) = true := by unfold Region.wanted; rw [hg]
  rw [if_pos this]
  exact h K' (fun v w hS hW => hK _ w ⟨.inr hS, hW⟩)
end
end Go.Proofs.YtmhlebpchllpbaaGreatDoor
namespace Go.Proofs.YtmhlebpchllpbaaGreatDoor
open Go.RowKit Go.Sl
attribute [local go_sem] cell_of cellAt_of frozen_of zero_names
theorem name_cat (n : Nat) : (⟨#[109, 45]⟩ : ByteArray) ++ ⟨(Lib.decDigits n).toArray⟩ = mname n := by
  apply ByteArray.ext
  rw [ByteArray.data_append]
  simp [mname]
/-- As Q, but no way out by a panic. -/
def calmQ (Q : Exit → Act → World → Prop) : Exit → Act → World → Prop := fun e a w => match e with
  | .panic _ => False
  | e => Q e a w
theorem wp_calm {P : Program} {c : Code} {Q : Exit → Act → World → Prop} {a : Act} {w : World} (h : c.wp P (calmQ Q) a w) : c.wp P Q a w :=
  Code.wp_mono (Q := calmQ Q) (fun e a w h => by cases e <;> first | exact h | exact h.elim) h
def BeginSays' (mp p : Nat) (j : Value) (num many : Nat) (fs : Value) (k : Nat × Nat × Nat) (D : DiskSt) (rs : List (List UInt8)) (w0 : World) (F : Asn) (e : Ending) (w' : World) : Prop :=
  (e = .returned (.int .i64 0) ∧ (∀ r ∈ rs, r.length ≤ 65536) ∧ ∃ jj g1 g2, fget D.files g1 = none ∧ fget ((g1, (⟨journal [] rs, (journal [] rs).length⟩ : FileSt)) :: D.files) g2 = none ∧
      Mod w' w0 (diskA p (clearD (begD D (mname (num + 1)) (journal [] rs) g1 g2 7) (mname (num + 1))) * (mfA mp p (ptr jj) (num + 1) rs.length fs k * (jourA jj p (mname (num + 1)) (journal [] rs).length * F)))) ∨
  (e = .returned (.int .i64 6) ∧ ¬ FineJ D (mname (num + 1)) rs ∧ ∃ D', Over D D' ∧ D'.now = D.now ∧ D'.sure = D.now ∧ Mod w' w0 (diskA p D' * (mfA mp p j num many fs k * F)))
set_option maxRecDepth 8000 in
set_option maxHeartbeats 16000000 in
theorem mBegin_spec (mp p : Nat) (j : Value) (num many : Nat) (fs : Value) (k : Nat × Nat × Nat) (D : DiskSt) (A : Option Addr) (n c : Nat) (rs : List (List UInt8)) (w w0 : World) (F : Asn)
    (m : Mod w w0 (diskA p D * (mfA mp p j num many fs k * F))) (r : ReadsRecs F A n rs) (tab : TabIn F) (hnum : num + 1 < 4294967296) (h1 : mget D.now (mname (num + 1)) = none) (h2 : mget D.now nNew = none) (hroom : D.now.length ≤ 61) (hn : n ≤ 1000) :
    Calls Tryz.prog 18 #[ptr mp, .slice A n c] w (BeginSays' mp p j num many fs k D rs w0 F) := by
  have hok := okOf (F := mfA mp p j num many fs k * F) m ⟨rfl⟩
  have hmf : ∀ (fn : Fn) (first cap : Array Value) (w : World), (Instr.makeFunc fn first cap).run Tryz.prog w = .ok (.func fn first cap) w := fun _ _ _ _ => rfl
  have hw1 : IntKind.u32.wrap ((num : Int) + 1) = (num : Int) + 1 := by rw [IntKind.wrap_u32]; omega
  have hw2 : IntKind.u64.wrap ((num : Int) + 1) = (num : Int) + 1 := by rw [IntKind.wrap_u64]; omega
  have hcat : ¬ 9223372036854775807 < 2 + (Lib.decDigits (num + 1)).length := by have := digits_len hnum; omega
  have HF := Lib.hid (fun (u : World) (S : Asn) (mu : Mod u w0 S) (t : TabIn S) => (by
    have h := fmtUint_spec (num + 1) (by omega) u w0 S mu t
    rw [show ((num + 1 : Nat) : Int) = (num : Int) + 1 by omega] at h
    exact h : Calls Tryz.prog 23 #[.int .u64 ((num : Int) + 1), .int .i64 10] u fun e w' => e = .returned (.string ⟨(Lib.decDigits (num + 1)).toArray⟩) ∧ Mod w' w0 S))
  have R := Lib.hid r
  have T := Lib.hid tab
  have HOK := Lib.hid hok
  have hnok := ok_name hnum
  have hnm1000 : (mname (num + 1)).size ≤ 1000 := by have := name_small hnum; omega
  have hcatn := name_cat (num + 1)
  have hNN := name_not_New (num + 1)
  have hNM := name_not_M (num + 1)
  unfold BeginSays'
  clear r tab hok
  obtain ⟨nm, hnm⟩ : ∃ nm, mname (num + 1) = nm := ⟨_, rfl⟩
  rw [hnm] at h1 hnok hnm1000 hcatn hNN hNM ⊢
  have HNM := Lib.hid hnm
  clear hnm
  have H1 := Lib.hid h1
  have H2 := Lib.hid h2
  clear h1 h2
  have m0 := m
  unfold mfA at m0
  go_enter_defers Tryz.func18, Tryz.ntmps18
  refine wp_calm ?_
  go_wp2_with (go_at_call 23; refine (HF.out _ _ inferInstance (T.out.lift inferInstance)).mono ?_; rintro e w1 ⟨rfl, m1⟩)
  have m2 : Mod (w1.alloc (.cells #[.string ((⟨#[109, 45]⟩ : ByteArray) ++ ⟨(Lib.decDigits (num + 1)).toArray⟩)] 9)) w0 _ := inferInstance
  rw [hcatn] at m2
  generalize w1.alloc (.cells #[.string nm] 9) = w2 at *
  generalize w1.heap.size = bn at *
  generalize w.heap.size = bm at *
  generalize bm + 1 = be at *
  clear m1 m m0 HF hcatn hcat
  obtain ⟨SS, hSS, mSS⟩ : ∃ SS, SS = _ ∧ Mod w2 w0 SS := ⟨_, rfl, m2⟩
  have q1 : Has SS bm (.cells #[ptr mp] 29 (0, 0)) := by rw [hSS]; infer_instance
  have q2 : Has SS bn (.cells #[.string nm] 9 (0, 0)) := by rw [hSS]; infer_instance
  have q3 : Has SS mp (.cells #[ptr p, j, .int .u32 (num : Int), .int .i64 (many : Int), fs, .slice none 0 0, .slice none 0 0, .int .u32 (k.1 : Int), .int .u32 (k.2.1 : Int), .int .u64 (k.2.2 : Int), .bool true] 59 (0, 0)) := by rw [hSS]; infer_instance
  have hY : SS = diskA p D * begY be bm bn mp p nm j num many fs k 0 F := by rw [hSS]; unfold begY mfA; ac_rfl
  have HY := Lib.hid hY
  clear hSS hY
  have := Held.some mSS
  refine wp_region_mod_tail 5 mSS (by kernel_rfl) (by kernel_rfl) ?_
  simp only [List.take_succ_cons, List.take_zero, List.drop_succ_cons, List.drop_zero]
  repeat (go_big_quiet_step (fail))
  refine wpQuiet_nil ?_
  rintro w5 ⟨s, rfl⟩
  have m5 := Mod.to (m := s.mod) HY.out
  clear mSS q1 q2 q3 this m2 HY
  generalize s.world = w5 at *
  go_wp2_with fail
  refine (remove_none p D nm _ w0 _ _ m5 ⟨rfl⟩ (by have := named_size hnok; omega) hnok H1.out).mono ?_
  rintro e w6 ⟨rfl, m6⟩
  clear m5
  go_wp2_with fail
  have HO := Lib.hid (fun (u : World) (X : Asn) (mu : Mod u w0 (diskA p D * X)) => (by
    refine (jopen_fresh p D nm u w0 X mu (by have := named_size hnok; omega) hnok H1.out (by omega)).mono ?_
    rintro e w' ⟨g, hg, jj, B, R, rfl, _, m7⟩
    exact ⟨jj, g, B, rfl, hg, Mod.drop (A := R) (m := Mod.to (m := m7) (by ac_rfl))⟩ : Calls Tryz.prog 25 #[ptr p, .string nm] u fun e w' => ∃ (jj g : Nat) (B : Option Addr), e = .returned (.tuple #[ptr jj, .slice B 0 0, .int .i64 0]) ∧ fget D.files g = none ∧ Mod w' w0 (diskA p (begD D nm [] g 0 0) * (jourA jj p nm 0 * X))))
  go_cut [6, 7] from 12 (fun jv rv wx => ∃ (jj g1 : Nat) (B : Option Addr), jv = ptr jj ∧ rv = .slice B 0 0 ∧ fget D.files g1 = none ∧ Mod wx w0 (begS be bm bn mp p jj nm j num many fs k 0 (begD D nm [] g1 0 0) 0 F))
  case first =>
    unfold begY mfA at m6
    go_region_with (go_at_call 25; refine (HO.out _ _ inferInstance).mono ?_; rintro e w7 ⟨jj, g1, B, rfl, hg1, m7⟩)
    all_goals (go_wp2_with fail)
    all_goals go_meet
    all_goals exact ⟨jj, g1, B, rfl, rfl, hg1, begS_store be bm bn mp p jj nm j num many fs k w7 w0 F 0 0 0 _ (by unfold begS begY mfA; exact m7)⟩
  case rest =>
    obtain ⟨jj, g1, B0, rfl, rfl, hg1, m8⟩ := hcut
    clear m6 HO
    have Hnrs : Hid (n = rs.length) := by show _ = _; rw [R.out.1]
    go_wp2_with fail
    go_loopg [39] n (fun gk iv wr => ∃ i : Nat, i ≤ n ∧ gk = n - i ∧ iv = .int .i64 (i : Int) ∧ ∃ (e0 : Int) (en : Nat) (D1 : DiskSt), Hid (St1 D nm rs g1 i e0 en D1) ∧ Mod wr w0 (begS be bm bn mp p jj nm j num many fs k en D1 e0 F))
    case atStart => exact ⟨0, Nat.zero_le _, rfl, rfl, 0, 0, _, .inl ⟨rfl, rfl, rfl, by simp⟩, m8⟩
    case round =>
      obtain ⟨i, hi, hgk, rfl, e0, en, D1, HS, m9⟩ := hrel
      have m9' := m9
      unfold begS begY mfA at m9'
      by_cases hlt : i < n
      · have hii : (i : Int) < (n : Int) := by omega
        obtain ⟨b1, o1, rfl, hil, B, cB, hxA, rB, hcB⟩ := reads_rec_all (Mod.sub F (m := m9')) R.out hlt
        have hx : wr.cell? ⟨b1, o1 + i, none⟩ = some (.slice B rs[i].length cB) := hxA ⟨wr, Mod.sub F (m := m9')⟩
        by_cases he : e0 = 0
        · subst he
          have HADD := Lib.hid (st1_add be bm bn mp p jj nm j num many fs k D rs g1 wr w0 F HOK.out hnok H1.out H2.out hg1 hil HS.out m9 B cB rB hcB)
          clear hxA rB
          go_wp2_with fail
          refine HADD.out.mono ?_
          rintro e w10 ⟨e1, en1, D2, rfl, HS2, m10⟩
          have m11 := begS_store be bm bn mp p jj nm j num many fs k w10 w0 F en1 0 e1 D2 m10
          have HS3 := Lib.hid HS2
          clear HS2 HADD
          have m10' := m10
          unfold begS begY mfA at m10'
          go_wp2_with fail
          go_roundg (n - (i + 1))
          case measure => omega
          case rel => exact ⟨i + 1, hlt, rfl, by go_num, e1, en1, D2, HS3, m11⟩
        · have b0 : (e0 == 0) = false := beq_eq_false_iff_ne.2 he
          clear hxA rB
          go_wp2_with fail
          go_roundg (n - (i + 1))
          case measure => omega
          case rel => exact ⟨i + 1, hlt, rfl, by go_num, e0, en, D1, HS.out.next he, m9⟩
      · have hii : ¬ (i : Int) < (n : Int) := by omega
        have HS2 : Hid (St2 D nm rs g1 0 e0 en D1) := HS.out.last (by have := Hnrs.out; omega)
        clear HS
        go_wp2_with fail
        refine wp_region_N 99 (fun u => u.cell? ⟨bm, 0, none⟩ = some (ptr mp) ∧ u.cell? ⟨mp, 0, none⟩ = some (ptr p)) (by kernel_rfl) (by refine ⟨?_, ?_⟩ <;> (rw [cell_of]; rfl)) (fun hHeld => ?_)
        simp only [List.size_toArray, List.length_cons, List.length_nil, Nat.reduceAdd]
        refine takeS 18 (some 67) (v := ?_) rfl rfl (by kernel_rfl) (by kernel_rfl) (by kernel_rfl) (by kernel_rfl) (fun _ _ _ h => h) (Or.inl ⟨by rfl, ?_⟩) hHeld ?_
        rotate_left 1
        · (intro u hu; (try dsimp only at hu); go_simp; try with_reducible rfl)
        simp only [Act.put, List.setIfInBounds_toArray, List.set_cons_zero, List.set_cons_succ]
        refine takeS 0 (some 49) (v := ?_) rfl rfl (by kernel_rfl) (by kernel_rfl) (by kernel_rfl) (by kernel_rfl) (fun _ _ _ h => h) (Or.inl ⟨by rfl, ?_⟩) hHeld ?_
        rotate_left 1
        · (intro u hu; (try dsimp only at hu); go_simp; try with_reducible rfl)
        simp only [Act.put, List.setIfInBounds_toArray, List.set_cons_zero, List.set_cons_succ]
        refine takeS 1 (some 50) (v := ?_) rfl rfl (by kernel_rfl) (by kernel_rfl) (by kernel_rfl) (by kernel_rfl) (fun _ _ _ h => h) (Or.inl ⟨by rfl, ?_⟩) hHeld ?_
        rotate_left 1
        · (intro u hu; (try dsimp only at hu); go_simp; try with_reducible rfl)
        simp only [Act.put, List.setIfInBounds_toArray, List.set_cons_zero, List.set_cons_succ]
        refine takeS 2 (some 51) (v := ?_) rfl rfl (by kernel_rfl) (by kernel_rfl) (by kernel_rfl) (by kernel_rfl) (fun _ _ _ h => h) (Or.inl ⟨by rfl, ?_⟩) hHeld ?_
        rotate_left 1
        · (intro u hu; (try dsimp only at hu); go_simp; try with_reducible rfl)
        simp only [Act.put, List.setIfInBounds_toArray, List.set_cons_zero, List.set_cons_succ]
        refine takeS 3 (some 52) (v := ?_) rfl rfl (by kernel_rfl) (by kernel_rfl) (by kernel_rfl) (by kernel_rfl) (fun _ _ _ h => h) (Or.inl ⟨by rfl, ?_⟩) hHeld ?_
        rotate_left 1
        · (intro u hu; (try dsimp only at hu); go_simp; try with_reducible rfl)
        simp only [Act.put, List.setIfInBounds_toArray, List.set_cons_zero, List.set_cons_succ]
        refine takeS 4 (some 53) (v := ?_) rfl rfl (by kernel_rfl) (by kernel_rfl) (by kernel_rfl) (by kernel_rfl) (fun _ _ _ h => h) (Or.inl ⟨by rfl, ?_⟩) hHeld ?_
        rotate_left 1
        · (intro u hu; (try dsimp only at hu); go_simp; try with_reducible rfl)
        simp only [Act.put, List.setIfInBounds_toArray, List.set_cons_zero, List.set_cons_succ]
        refine takeS 5 (some 54) (v := ?_) rfl rfl (by kernel_rfl) (by kernel_rfl) (by kernel_rfl) (by kernel_rfl) (fun _ _ _ h => h) (Or.inl ⟨by rfl, ?_⟩) hHeld ?_
        rotate_left 1
        · (intro u hu; (try dsimp only at hu); go_simp; try with_reducible rfl)
        simp only [Act.put, List.setIfInBounds_toArray, List.set_cons_zero, List.set_cons_succ]
        refine takeS 6 (some 55) (v := ?_) rfl rfl (by kernel_rfl) (by kernel_rfl) (by kernel_rfl) (by kernel_rfl) (fun _ _ _ h => h) (Or.inl ⟨by rfl, ?_⟩) hHeld ?_
        rotate_left 1
        · (intro u hu; (try dsimp only at hu); go_simp; try with_reducible rfl)
        simp only [Act.put, List.setIfInBounds_toArray, List.set_cons_zero, List.set_cons_succ]
        refine takeS 7 (some 56) (v := ?_) rfl rfl (by kernel_rfl) (by kernel_rfl) (by kernel_rfl) (by kernel_rfl) (fun _ _ _ h => h) (Or.inl ⟨by rfl, ?_⟩) hHeld ?_
        rotate_left 1
        · (intro u hu; (try dsimp only at hu); go_simp; try with_reducible rfl)
        simp only [Act.put, List.setIfInBounds_toArray, List.set_cons_zero, List.set_cons_succ]
        refine takeS 8 (some 57) (v := ?_) rfl rfl (by kernel_rfl) (by kernel_rfl) (by kernel_rfl) (by kernel_rfl) (fun _ _ _ h => h) (Or.inl ⟨by rfl, ?_⟩) hHeld ?_
        rotate_left 1
        · (intro u hu; (try dsimp only at hu); go_simp; try with_reducible rfl)
        simp only [Act.put, List.setIfInBounds_toArray, List.set_cons_zero, List.set_cons_succ]
        refine takeS 9 (some 58) (v := ?_) rfl rfl (by kernel_rfl) (by kernel_rfl) (by kernel_rfl) (by kernel_rfl) (fun _ _ _ h => h) (Or.inl ⟨by rfl, ?_⟩) hHeld ?_
        rotate_left 1
        · (intro u hu; (try dsimp only at hu); go_simp; try with_reducible rfl)
        simp only [Act.put, List.setIfInBounds_toArray, List.set_cons_zero, List.set_cons_succ]
        refine takeS 10 (some 59) (v := ?_) rfl rfl (by kernel_rfl) (by kernel_rfl) (by kernel_rfl) (by kernel_rfl) (fun _ _ _ h => h) (Or.inl ⟨by rfl, ?_⟩) hHeld ?_
        rotate_left 1
        · (intro u hu; (try dsimp only at hu); go_simp; try with_reducible rfl)
        simp only [Act.put, List.setIfInBounds_toArray, List.set_cons_zero, List.set_cons_succ]
        refine takeS 11 (some 60) (v := ?_) rfl rfl (by kernel_rfl) (by kernel_rfl) (by kernel_rfl) (by kernel_rfl) (fun _ _ _ h => h) (Or.inl ⟨by rfl, ?_⟩) hHeld ?_
        rotate_left 1
        · (intro u hu; (try dsimp only at hu); go_simp; try with_reducible rfl)
        simp only [Act.put, List.setIfInBounds_toArray, List.set_cons_zero, List.set_cons_succ]
        refine takeS 12 (some 61) (v := ?_) rfl rfl (by kernel_rfl) (by kernel_rfl) (by kernel_rfl) (by kernel_rfl) (fun _ _ _ h => h) (Or.inl ⟨by rfl, ?_⟩) hHeld ?_
        rotate_left 1
        · (intro u hu; (try dsimp only at hu); go_simp; try with_reducible rfl)
        simp only [Act.put, List.setIfInBounds_toArray, List.set_cons_zero, List.set_cons_succ]
        refine takeS 13 (some 62) (v := ?_) rfl rfl (by kernel_rfl) (by kernel_rfl) (by kernel_rfl) (by kernel_rfl) (fun _ _ _ h => h) (Or.inl ⟨by rfl, ?_⟩) hHeld ?_
        rotate_left 1
        · (intro u hu; (try dsimp only at hu); go_simp; try with_reducible rfl)
        simp only [Act.put, List.setIfInBounds_toArray, List.set_cons_zero, List.set_cons_succ]
        refine takeS 14 (some 63) (v := ?_) rfl rfl (by kernel_rfl) (by kernel_rfl) (by kernel_rfl) (by kernel_rfl) (fun _ _ _ h => h) (Or.inl ⟨by rfl, ?_⟩) hHeld ?_
        rotate_left 1
        · (intro u hu; (try dsimp only at hu); go_simp; try with_reducible rfl)
        simp only [Act.put, List.setIfInBounds_toArray, List.set_cons_zero, List.set_cons_succ]
        refine takeS 15 (some 64) (v := ?_) rfl rfl (by kernel_rfl) (by kernel_rfl) (by kernel_rfl) (by kernel_rfl) (fun _ _ _ h => h) (Or.inl ⟨by rfl, ?_⟩) hHeld ?_
        rotate_left 1
        · (intro u hu; (try dsimp only at hu); go_simp; try with_reducible rfl)
        simp only [Act.put, List.setIfInBounds_toArray, List.set_cons_zero, List.set_cons_succ]
        refine oneS 16 (some 65) (by kernel_rfl) rfl rfl rfl (fun K' hK => ?_)
        go_simp
        have mB := Lib.hid (Mod.drew (m := Mod.alloc (m := m9) (.cells #[.func (.func 34) #[ptr jj] #[], .func (.func 47) #[] #[ptr bm], .func (.func 49) #[] #[ptr bm, ptr bn], .func (.func 51) #[] #[ptr bm], .func (.func 46) #[ptr p] #[], .func (.func 53) #[] #[ptr bm], .func (.func 46) #[ptr p] #[]] 84)))
        refine hK _ _ (by refine ⟨?_, ?_⟩ <;> (rw [cell_of]; rfl)) ?_
        clear hK
        clear K'
        simp only [Act.put, List.setIfInBounds_toArray, List.set_cons_zero, List.set_cons_succ]
        have hHeld : (fun u : World => u.cell? ⟨bm, 0, none⟩ = some (ptr mp) ∧ u.cell? ⟨mp, 0, none⟩ = some (ptr p)) ((wr.alloc (.cells #[.func (.func 34) #[ptr jj] #[], .func (.func 47) #[] #[ptr bm], .func (.func 49) #[] #[ptr bm, ptr bn], .func (.func 51) #[] #[ptr bm], .func (.func 46) #[ptr p] #[], .func (.func 53) #[] #[ptr bm], .func (.func 46) #[ptr p] #[]] 84)).drew) := by refine ⟨?_, ?_⟩ <;> (rw [cell_of]; rfl)
        refine takeS 17 (some 66) (v := ?_) rfl rfl (by kernel_rfl) (by kernel_rfl) (by kernel_rfl) (by kernel_rfl) (fun _ _ _ h => h) (Or.inl ⟨by rfl, ?_⟩) hHeld ?_
        rotate_left 1
        · (intro u hu; (try dsimp only at hu); go_simp; try with_reducible rfl)
        simp only [Act.put, List.setIfInBounds_toArray, List.set_cons_zero, List.set_cons_succ]
        refine wpAnyN_done (by kernel_rfl) ?_
        obtain ⟨F3, hF3⟩ : ∃ F3, F3 = blk wr.heap.size (.cells #[.func (.func 34) #[ptr jj] #[], .func (.func 47) #[] #[ptr bm], .func (.func 49) #[] #[ptr bm, ptr bn], .func (.func 51) #[] #[ptr bm], .func (.func 46) #[ptr p] #[], .func (.func 53) #[] #[ptr bm], .func (.func 46) #[ptr p] #[]] 84 (0, 0)) * F := ⟨_, rfl⟩
        have m12 : Mod ((wr.alloc (.cells #[.func (.func 34) #[ptr jj] #[], .func (.func 47) #[] #[ptr bm], .func (.func 49) #[] #[ptr bm, ptr bn], .func (.func 51) #[] #[ptr bm], .func (.func 46) #[ptr p] #[], .func (.func 53) #[] #[ptr bm], .func (.func 46) #[ptr p] #[]] 84)).drew) w0 (begS be bm bn mp p jj nm j num many fs k en D1 e0 F3) := Mod.to (m := mB.out) (by rw [hF3]; unfold begS begY; ac_rfl)
        have hC : Has F3 wr.heap.size (.cells #[.func (.func 34) #[ptr jj] #[], .func (.func 47) #[] #[ptr bm], .func (.func 49) #[] #[ptr bm, ptr bn], .func (.func 51) #[] #[ptr bm], .func (.func 46) #[ptr p] #[], .func (.func 53) #[] #[ptr bm], .func (.func 46) #[ptr p] #[]] 84 (0, 0)) := by rw [hF3]; infer_instance
        have sF3 : Sub F3 F := by rw [hF3]; infer_instance
        have hF3 := Lib.hid hF3
        clear hHeld mB m9' m9
        generalize (wr.alloc (.cells #[.func (.func 34) #[ptr jj] #[], .func (.func 47) #[] #[ptr bm], .func (.func 49) #[] #[ptr bm, ptr bn], .func (.func 51) #[] #[ptr bm], .func (.func 46) #[ptr p] #[], .func (.func 53) #[] #[ptr bm], .func (.func 46) #[ptr p] #[]] 84)).drew = w12 at *
        generalize wr.heap.size = bs at *
        go_wp2_with fail
        go_loopg [67] 7 (fun gk iv w3 => ∃ i : Nat, i ≤ 7 ∧ gk = 7 - i ∧ iv = .int .i64 (i : Int) ∧ ∃ (e0 : Int) (en : Nat) (D1 : DiskSt), Hid (St2 D nm rs g1 i e0 en D1) ∧ Mod w3 w0 (begS be bm bn mp p jj nm j num many fs k en D1 e0 F3))
        case atStart => exact ⟨0, by omega, rfl, rfl, e0, en, D1, HS2, m12⟩
        case round =>
          clear m12 HS2
          obtain ⟨i, hi7, hgk7, rfl, e0, en, D1, HS3, m13⟩ := hrel
          rename World => w3
          have m13' := m13
          unfold begS begY mfA at m13'
          by_cases hlt7 : i < 7
          · by_cases he : e0 = 0
            · subst he
              obtain rfl | rfl | rfl | rfl | rfl | rfl | rfl : i = 0 ∨ i = 1 ∨ i = 2 ∨ i = 3 ∨ i = 4 ∨ i = 5 ∨ i = 6 := by omega
              · have HST := Lib.hid (st2_0 be bm bn mp p jj nm j num many fs k D rs g1 w3 w0 F3 hnok HS3.out m13)
                clear HS3
                go_wp2_with fail
                refine HST.out.mono ?_
                rintro e w14 ⟨e1, en1, D2, rfl, HS4, m14⟩
                have m15 := begS_store be bm bn mp p jj nm j num many fs k w14 w0 F3 en1 0 e1 D2 m14
                have HS5 := Lib.hid HS4
                clear HS4 HST
                have m14' := m14
                unfold begS begY mfA at m14'
                go_wp2_with fail
                go_roundg (7 - (0 + 1))
                case measure => omega
                case rel => exact ⟨0 + 1, by omega, rfl, by go_num, e1, en1, D2, HS5, m15⟩
              · have HST := Lib.hid (st2_1 be bm bn mp p jj nm j num many fs k D rs g1 w3 w0 F3 H2.out (Ne.symm hNN) hroom HS3.out m13)
                clear HS3
                go_wp2_with fail
                refine HST.out.mono ?_
                rintro e w14 ⟨e1, en1, D2, rfl, HS4, m14⟩
                have m15 := begS_store be bm bn mp p jj nm j num many fs k w14 w0 F3 en1 0 e1 D2 m14
                have HS5 := Lib.hid HS4
                clear HS4 HST
                have m14' := m14
                unfold begS begY mfA at m14'
                go_wp2_with fail
                go_roundg (7 - (1 + 1))
                case measure => omega
                case rel => exact ⟨1 + 1, by omega, rfl, by go_num, e1, en1, D2, HS5, m15⟩
              · have HST := Lib.hid (st2_2 be bm bn mp p jj nm j num many fs k D rs g1 w3 w0 F3 HOK.out H1.out H2.out (Ne.symm hNN) hg1 HS3.out m13 hnm1000)
                clear HS3
                go_wp2_with fail
                refine HST.out.mono ?_
                rintro e w14 ⟨e1, en1, D2, rfl, HS4, m14⟩
                have m15 := begS_store be bm bn mp p jj nm j num many fs k w14 w0 F3 en1 0 e1 D2 m14
                have HS5 := Lib.hid HS4
                clear HS4 HST
                have m14' := m14
                unfold begS begY mfA at m14'
                go_wp2_with fail
                go_roundg (7 - (2 + 1))
                case measure => omega
                case rel => exact ⟨2 + 1, by omega, rfl, by go_num, e1, en1, D2, HS5, m15⟩
              · have HST := Lib.hid (st2_3 be bm bn mp p jj nm j num many fs k D rs g1 w3 w0 F3 HS3.out m13)
                clear HS3
                go_wp2_with fail
                refine HST.out.mono ?_
                rintro e w14 ⟨e1, en1, D2, rfl, HS4, m14⟩
                have m15 := begS_store be bm bn mp p jj nm j num many fs k w14 w0 F3 en1 0 e1 D2 m14
                have HS5 := Lib.hid HS4
                clear HS4 HST
                have m14' := m14
                unfold begS begY mfA at m14'
                go_wp2_with fail
                go_roundg (7 - (3 + 1))
                case measure => omega
                case rel => exact ⟨3 + 1, by omega, rfl, by go_num, e1, en1, D2, HS5, m15⟩
              · have HST := Lib.hid (st2_4 be bm bn mp p jj nm j num many fs k D rs g1 w3 w0 F3 HS3.out m13)
                clear HS3
                go_wp2_with fail
                refine HST.out.mono ?_
                rintro e w14 ⟨e1, en1, D2, rfl, HS4, m14⟩
                have m15 := begS_store be bm bn mp p jj nm j num many fs k w14 w0 F3 en1 0 e1 D2 m14
                have HS5 := Lib.hid HS4
                clear HS4 HST
                have m14' := m14
                unfold begS begY mfA at m14'
                go_wp2_with fail
                go_roundg (7 - (4 + 1))
                case measure => omega
                case rel => exact ⟨4 + 1, by omega, rfl, by go_num, e1, en1, D2, HS5, m15⟩
              · have HST := Lib.hid (st2_5 be bm bn mp p jj nm j num many fs k D rs g1 w3 w0 F3 HS3.out m13)
                clear HS3
                go_wp2_with fail
                refine HST.out.mono ?_
                rintro e w14 ⟨e1, en1, D2, rfl, HS4, m14⟩
                have m15 := begS_store be bm bn mp p jj nm j num many fs k w14 w0 F3 en1 0 e1 D2 m14
                have HS5 := Lib.hid HS4
                clear HS4 HST
                have m14' := m14
                unfold begS begY mfA at m14'
                go_wp2_with fail
                go_roundg (7 - (5 + 1))
                case measure => omega
                case rel => exact ⟨5 + 1, by omega, rfl, by go_num, e1, en1, D2, HS5, m15⟩
              · have HST := Lib.hid (st2_6 be bm bn mp p jj nm j num many fs k D rs g1 w3 w0 F3 HS3.out m13)
                clear HS3
                go_wp2_with fail
                refine HST.out.mono ?_
                rintro e w14 ⟨e1, en1, D2, rfl, HS4, m14⟩
                have m15 := begS_store be bm bn mp p jj nm j num many fs k w14 w0 F3 en1 0 e1 D2 m14
                have HS5 := Lib.hid HS4
                clear HS4 HST
                have m14' := m14
                unfold begS begY mfA at m14'
                go_wp2_with fail
                go_roundg (7 - (6 + 1))
                case measure => omega
                case rel => exact ⟨6 + 1, by omega, rfl, by go_num, e1, en1, D2, HS5, m15⟩
            · have b0 : (e0 == 0) = false := beq_eq_false_iff_ne.2 he
              obtain rfl | rfl | rfl | rfl | rfl | rfl | rfl : i = 0 ∨ i = 1 ∨ i = 2 ∨ i = 3 ∨ i = 4 ∨ i = 5 ∨ i = 6 := by omega
              · go_wp2_with fail
                go_roundg (7 - (0 + 1))
                case measure => omega
                case rel => exact ⟨0 + 1, by omega, rfl, by go_num, e0, en, D1, HS3.out.next he, m13⟩
              · go_wp2_with fail
                go_roundg (7 - (1 + 1))
                case measure => omega
                case rel => exact ⟨1 + 1, by omega, rfl, by go_num, e0, en, D1, HS3.out.next he, m13⟩
              · go_wp2_with fail
                go_roundg (7 - (2 + 1))
                case measure => omega
                case rel => exact ⟨2 + 1, by omega, rfl, by go_num, e0, en, D1, HS3.out.next he, m13⟩
              · go_wp2_with fail
                go_roundg (7 - (3 + 1))
                case measure => omega
                case rel => exact ⟨3 + 1, by omega, rfl, by go_num, e0, en, D1, HS3.out.next he, m13⟩
              · go_wp2_with fail
                go_roundg (7 - (4 + 1))
                case measure => omega
                case rel => exact ⟨4 + 1, by omega, rfl, by go_num, e0, en, D1, HS3.out.next he, m13⟩
              · go_wp2_with fail
                go_roundg (7 - (5 + 1))
                case measure => omega
                case rel => exact ⟨5 + 1, by omega, rfl, by go_num, e0, en, D1, HS3.out.next he, m13⟩
              · go_wp2_with fail
                go_roundg (7 - (6 + 1))
                case measure => omega
                case rel => exact ⟨6 + 1, by omega, rfl, by go_num, e0, en, D1, HS3.out.next he, m13⟩
          · have hi77 : i = 7 := by omega
            subst hi77
            by_cases he : e0 = 0
            · subst he
              go_wp2_with fail
              refine wp_region_N 99 (fun u : World => u.cell? ⟨bm, 0, none⟩ = some (ptr mp)) (by kernel_rfl) (by rw [cell_of]; rfl) (fun hHeld => ?_)
              simp only [List.size_toArray, List.length_cons, List.length_nil, Nat.reduceAdd]
              refine takeS 3 (some 81) (v := ?_) rfl rfl (by kernel_rfl) (by kernel_rfl) (by kernel_rfl) (by kernel_rfl) (fun _ _ _ h => h) (Or.inl ⟨by rfl, ?_⟩) hHeld ?_
              rotate_left 1
              · (intro u hu; (try dsimp only at hu); go_simp; try with_reducible rfl)
              simp only [Act.put, List.setIfInBounds_toArray, List.set_cons_zero, List.set_cons_succ]
              refine takeS 0 (some 78) (v := ?_) rfl rfl (by kernel_rfl) (by kernel_rfl) (by kernel_rfl) (by kernel_rfl) (fun _ _ _ h => h) (Or.inl ⟨by rfl, ?_⟩) hHeld ?_
              rotate_left 1
              · (intro u hu; (try dsimp only at hu); go_simp; try with_reducible rfl)
              simp only [Act.put, List.setIfInBounds_toArray, List.set_cons_zero, List.set_cons_succ]
              refine takeS 1 (some 79) (v := ?_) rfl rfl (by kernel_rfl) (by kernel_rfl) (by kernel_rfl) (by kernel_rfl) (fun _ _ _ h => h) (Or.inl ⟨by rfl, ?_⟩) hHeld ?_
              rotate_left 1
              · (intro u hu; (try dsimp only at hu); go_simp; try with_reducible rfl)
              simp only [Act.put, List.setIfInBounds_toArray, List.set_cons_zero, List.set_cons_succ]
              refine takeS 2 (some 80) (v := ?_) rfl rfl (by kernel_rfl) (by kernel_rfl) (by kernel_rfl) (by kernel_rfl) (fun _ _ _ h => h) (Or.inl ⟨by rfl, ?_⟩) hHeld ?_
              rotate_left 1
              · (intro u hu; (try dsimp only at hu); go_simp; try with_reducible rfl)
              simp only [Act.put, List.setIfInBounds_toArray, List.set_cons_zero, List.set_cons_succ]
              refine takeS 4 (some 82) (v := ?_) rfl rfl (by kernel_rfl) (by kernel_rfl) (by kernel_rfl) (by kernel_rfl) (fun _ _ _ h => h) (Or.inl ⟨by rfl, ?_⟩) hHeld ?_
              rotate_left 1
              · (intro u hu; (try dsimp only at hu); go_simp; try with_reducible rfl)
              simp only [Act.put, List.setIfInBounds_toArray, List.set_cons_zero, List.set_cons_succ]
              refine takeS 5 (some 83) (v := ?_) rfl rfl (by kernel_rfl) (by kernel_rfl) (by kernel_rfl) (by kernel_rfl) (fun _ _ _ h => h) (Or.inl ⟨by rfl, ?_⟩) hHeld ?_
              rotate_left 1
              · (intro u hu; (try dsimp only at hu); go_simp; try with_reducible rfl)
              simp only [Act.put, List.setIfInBounds_toArray, List.set_cons_zero, List.set_cons_succ]
              refine takeS 6 (some 84) (v := ?_) rfl rfl (by kernel_rfl) (by kernel_rfl) (by kernel_rfl) (by kernel_rfl) (fun _ _ _ h => h) (Or.inl ⟨by rfl, ?_⟩) hHeld ?_
              rotate_left 1
              · (intro u hu; (try dsimp only at hu); go_simp; try with_reducible rfl)
              simp only [Act.put, List.setIfInBounds_toArray, List.set_cons_zero, List.set_cons_succ]
              refine takeS 9 (some 87) (v := ?_) rfl rfl (by kernel_rfl) (by kernel_rfl) (by kernel_rfl) (by kernel_rfl) (fun _ _ _ h => h) (Or.inl ⟨by rfl, ?_⟩) hHeld ?_
              rotate_left 1
              · (intro u hu; (try dsimp only at hu); go_simp; try with_reducible rfl)
              simp only [Act.put, List.setIfInBounds_toArray, List.set_cons_zero, List.set_cons_succ]
              refine takeS 10 (some 88) (v := ?_) rfl rfl (by kernel_rfl) (by kernel_rfl) (by kernel_rfl) (by kernel_rfl) (fun _ _ _ h => h) (Or.inl ⟨by rfl, ?_⟩) hHeld ?_
              rotate_left 1
              · (intro u hu; (try dsimp only at hu); go_simp; try with_reducible rfl)
              simp only [Act.put, List.setIfInBounds_toArray, List.set_cons_zero, List.set_cons_succ]
              refine oneS 7 (some 85) (by kernel_rfl) rfl rfl rfl (fun K' hK => ?_)
              go_simp
              refine hK _ _ (by rw [cell_of]; rfl) ?_
              clear hK
              clear K'
              simp only [Act.put, List.setIfInBounds_toArray, List.set_cons_zero, List.set_cons_succ]
              refine takeS 8 (some 86) (v := ?_) rfl rfl (by kernel_rfl) (by kernel_rfl) (by kernel_rfl) (by kernel_rfl) (fun _ _ _ h => h) (Or.inl ⟨by rfl, ?_⟩) hHeld ?_
              rotate_left 1
              · (intro u hu; (try dsimp only at hu); go_simp; try with_reducible rfl)
              simp only [Act.put, List.setIfInBounds_toArray, List.set_cons_zero, List.set_cons_succ]
              refine takeS 11 (some 89) (v := ?_) rfl rfl (by kernel_rfl) (by kernel_rfl) (by kernel_rfl) (by kernel_rfl) (fun _ _ _ h => h) (Or.inl ⟨by rfl, ?_⟩) hHeld ?_
              rotate_left 1
              · (intro u hu; (try dsimp only at hu); go_simp; try with_reducible rfl)
              simp only [Act.put, List.setIfInBounds_toArray, List.set_cons_zero, List.set_cons_succ]
              refine takeS 12 (some 90) (v := ?_) rfl rfl (by kernel_rfl) (by kernel_rfl) (by kernel_rfl) (by kernel_rfl) (fun _ _ _ h => h) (Or.inl ⟨by rfl, ?_⟩) hHeld ?_
              rotate_left 1
              · (intro u hu; (try dsimp only at hu); go_simp; try with_reducible rfl)
              simp only [Act.put, List.setIfInBounds_toArray, List.set_cons_zero, List.set_cons_succ]
              refine oneS 13 none (by kernel_rfl) rfl rfl rfl (fun K' hK => ?_)
              go_simp
              refine hK undef _ (by rw [cell_of]; rfl) ?_
              clear hK
              clear K'
              clear hHeld
              simp only [Act.put]
              have hHeld : (fun u : World => u.cell? ⟨bm, 0, none⟩ = some (ptr mp)) (w3.drew.setCell ⟨mp, 1, none⟩ (ptr jj)) := by show World.cell? _ _ = _; rw [cell_of]; rfl
              refine takeS 14 (some 91) (v := ?_) rfl rfl (by kernel_rfl) (by kernel_rfl) (by kernel_rfl) (by kernel_rfl) (fun _ _ _ h => h) (Or.inl ⟨by rfl, ?_⟩) hHeld ?_
              rotate_left 1
              · (intro u hu; (try dsimp only at hu); go_simp; try with_reducible rfl)
              simp only [Act.put, List.setIfInBounds_toArray, List.set_cons_zero, List.set_cons_succ]
              refine takeS 15 (some 92) (v := ?_) rfl rfl (by kernel_rfl) (by kernel_rfl) (by kernel_rfl) (by kernel_rfl) (fun _ _ _ h => h) (Or.inl ⟨by rfl, ?_⟩) hHeld ?_
              rotate_left 1
              · (intro u hu; (try dsimp only at hu); go_simp; try with_reducible rfl)
              simp only [Act.put, List.setIfInBounds_toArray, List.set_cons_zero, List.set_cons_succ]
              refine oneS 16 none (by kernel_rfl) rfl rfl rfl (fun K' hK => ?_)
              go_simp
              refine hK undef _ (by rw [cell_of]; rfl) ?_
              clear hK
              clear K'
              clear hHeld
              simp only [Act.put]
              have hHeld : (fun u : World => u.cell? ⟨bm, 0, none⟩ = some (ptr mp)) ((w3.drew.setCell ⟨mp, 1, none⟩ (ptr jj)).setCell ⟨mp, 2, none⟩ (.int .u32 ((num : Int) + 1))) := by show World.cell? _ _ = _; rw [cell_of]; rfl
              refine takeS 17 (some 93) (v := ?_) rfl rfl (by kernel_rfl) (by kernel_rfl) (by kernel_rfl) (by kernel_rfl) (fun _ _ _ h => h) (Or.inl ⟨by rfl, ?_⟩) hHeld ?_
              rotate_left 1
              · (intro u hu; (try dsimp only at hu); go_simp; try with_reducible rfl)
              simp only [Act.put, List.setIfInBounds_toArray, List.set_cons_zero, List.set_cons_succ]
              refine takeS 18 (some 94) (v := ?_) rfl rfl (by kernel_rfl) (by kernel_rfl) (by kernel_rfl) (by kernel_rfl) (fun _ _ _ h => h) (Or.inl ⟨by rfl, ?_⟩) hHeld ?_
              rotate_left 1
              · (intro u hu; (try dsimp only at hu); go_simp; try with_reducible rfl)
              simp only [Act.put, List.setIfInBounds_toArray, List.set_cons_zero, List.set_cons_succ]
              refine oneS 19 none (by kernel_rfl) rfl rfl rfl (fun K' hK => ?_)
              go_simp
              refine hK undef _ (by rw [cell_of]; rfl) ?_
              clear hK
              clear K'
              clear hHeld
              simp only [Act.put]
              refine wpAnyN_done (by kernel_rfl) ?_
              have m16 : Mod ((((w3.setCell ⟨mp, 1, none⟩ (ptr jj)).setCell ⟨mp, 2, none⟩ (.int .u32 ((num : Int) + 1))).setCell ⟨mp, 3, none⟩ (.int .i64 (n : Int))).drew) w0 (begS be bm bn mp p jj nm (ptr jj) (num + 1) n fs k en D1 0 F3) := Mod.drew (m := begS_turn be bm bn mp p jj nm j num many fs k en D1 0 w3 w0 F3 (ptr jj) (num + 1) n m13)
              clear m13 m13'
              generalize (((w3.setCell ⟨mp, 1, none⟩ (ptr jj)).setCell ⟨mp, 2, none⟩ (.int .u32 ((num : Int) + 1))).setCell ⟨mp, 3, none⟩ (.int .i64 (n : Int))).drew = w16 at *
              have HCL := Lib.hid (beg_clear be bm bn mp p jj nm (ptr jj) (num + 1) n fs k en D1 0 w16 w0 F3 m16)
              have m16' := m16
              unfold begS begY mfA at m16'
              go_wp2_with fail
              refine HCL.out.mono ?_
              rintro e w17 ⟨rfl, m17⟩
              clear HCL m16 m16'
              have m18 := begS_store be bm bn mp p jj nm (ptr jj) (num + 1) n fs k w17 w0 F3 en 0 0 (clearD D1 nm) m17
              have m17' := m17
              unfold begS begY mfA at m17'
              go_wp2_with fail
              clear m17 m17'
              generalize w17.setCell ⟨be, 0, none⟩ (.int .i64 0) = w18 at *
              change Leaves _ _ _ _ _ _ _
              refine leaves_cons (f := 44) (args := #[ptr be, ptr bm, ptr bn]) (by simp) (by simp [go_sem]) ?_
              refine (beg_undo0 be bm bn mp p jj nm (ptr jj) (num + 1) n fs k en (clearD D1 nm) w18 w0 F3 m18 .returning).mono ?_
              rintro e u' w19 ⟨rfl, rfl, m19⟩
              have m19' := m19
              unfold begS begY mfA at m19'
              have hce : w19.cell? ⟨be, 0, none⟩ = some (.int .i64 0) := by rw [cell_of]; rfl
              refine ⟨.int .i64 0, by simp [results, Tryz.results18, go_sem, hce], ?_⟩
              rcases HS3.out with ⟨_, rfl, g2, hg2, rfl, hsm⟩ | h
              · refine .inl ⟨rfl, hsm, jj, g1, g2, hg1, hg2 (by omega), ?_⟩
                have hnn : n = rs.length := Hnrs.out
                rw [← hnn]
                exact Mod.to (m := Mod.drop (A := blk bs (.cells #[.func (.func 34) #[ptr jj] #[], .func (.func 47) #[] #[ptr bm], .func (.func 49) #[] #[ptr bm, ptr bn], .func (.func 51) #[] #[ptr bm], .func (.func 46) #[ptr p] #[], .func (.func 53) #[] #[ptr bm], .func (.func 46) #[ptr p] #[]] 84 (0, 0))) (m := Mod.to (m := begS_rest be bm bn mp p jj nm (ptr jj) (num + 1) n fs k (journal [] rs).length _ 0 w19 w0 F3 m19) (by rw [hF3.out]; ac_rfl))) rfl
              · exact absurd rfl h.1
            · have b0 : (e0 == 0) = false := beq_eq_false_iff_ne.2 he
              have m18 := begS_store be bm bn mp p jj nm j num many fs k w3 w0 F3 en e0 e0 D1 m13
              go_wp2_with fail
              clear m13 m13'
              generalize w3.setCell ⟨be, 0, none⟩ (.int .i64 e0) = w18 at *
              change Leaves _ _ _ _ _ _ _
              refine leaves_cons (f := 44) (args := #[ptr be, ptr bm, ptr bn]) (by simp) (by simp [go_sem]) ?_
              refine (beg_undo1 be bm bn mp p jj nm j num many fs k en D1 e0 w18 w0 F3 m18 he hnok .returning).mono ?_
              rintro e u' w19 ⟨rfl, rfl, m19⟩
              have m19' := m19
              unfold begS begY mfA at m19'
              have hce : w19.cell? ⟨be, 0, none⟩ = some (.int .i64 6) := by rw [cell_of]; rfl
              refine ⟨.int .i64 6, by simp [results, Tryz.results18, go_sem, hce], ?_⟩
              rcases HS3.out with h | ⟨_, hb, hnf⟩
              · exact absurd h.1 he
              · refine .inr ⟨rfl, hnf, ⟨D1.size, mdel (mdel D1.now nm) nNew, mdel (mdel D1.now nm) nNew, D1.files⟩, ⟨hb.over.size, hb.over.files⟩, hb.now, hb.now, ?_⟩
                exact Mod.drop (A := jourA jj p nm en * blk bs (.cells #[.func (.func 34) #[ptr jj] #[], .func (.func 47) #[] #[ptr bm], .func (.func 49) #[] #[ptr bm, ptr bn], .func (.func 51) #[] #[ptr bm], .func (.func 46) #[ptr p] #[], .func (.func 53) #[] #[ptr bm], .func (.func 46) #[ptr p] #[]] 84 (0, 0))) (m := Mod.to (m := begS_rest be bm bn mp p jj nm j num many fs k en _ 6 w19 w0 F3 m19) (by rw [hF3.out]; ac_rfl))
end Go.Proofs.YtmhlebpchllpbaaGreatDoor
