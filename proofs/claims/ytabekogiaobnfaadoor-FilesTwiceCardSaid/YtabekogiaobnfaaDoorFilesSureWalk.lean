/- The walk of FilesSure: it returns true and changes nothing that was there; no condition. -/
import Derived.Test.YtabekogiaobnfaaDoorArgActs
import Derived.Deep.RegionHeld3
import Derived.Deep.QuietTactic
import Derived.BigQuiet
namespace Go.Proofs.YtabekogiaobnfaaDoor
open Go.RowKit Go.Sl Go.Maps
attribute [local go_sem] cell_of frozen_of zero_names conv_sb
abbrev mine : ByteArray := ⟨#[109, 105, 110, 101]⟩
theorem ok_mine : nameOk mine = true := by rw [nameOk_eq]; decide
theorem mget_put {α : Type} {L : List (ByteArray × α)} {s : ByteArray} (h : mget L s = none) (v : α) : mget (mput L s v) s = some v := by
  rw [mput_new h]
  unfold mget at h ⊢
  cases hf : L.find? (fun p => decide (p.1 = s)) with
  | none => rw [List.find?_append, hf]; simp
  | some x => rw [hf] at h; cases h
theorem kept_kept (keep keep2 : Nat) (f : FileSt) (h : f.sure ≤ f.bytes.length) : kept keep2 (kept keep f) = kept keep f := by
  have h1 := kept_len keep f h
  have e : (kept keep f).sure + min keep2 ((kept keep f).bytes.length - (kept keep f).sure) = (kept keep f).sure := by omega
  show (⟨(kept keep f).bytes.take _, _⟩ : FileSt) = _
  rw [e, List.take_of_length_le (by omega)]
theorem ok_of {w w0 : World} {S F : Asn} {p : Nat} {D : DiskSt} (m : Mod w w0 S) (t : Take S (diskA p) D F) : DiskOk D := by obtain ⟨rn, rs, hok, _⟩ := disk_open m t; exact hok
/-- What is known of a file of a disk. -/
structure FileIn (D : DiskSt) (name : ByteArray) (g : Nat) (f : FileSt) : Prop where
  name : mget D.now name = some g
  file : fget D.files g = some f
theorem FileIn.put {D : DiskSt} {name : ByteArray} {g : Nat} {f : FileSt} (h : FileIn D name g f) (f' : FileSt) : FileIn { D with files := fset D.files g f' } name g f' := ⟨h.name, fget_fset_same _ _ _ _ h.file⟩
theorem FileIn.new {D : DiskSt} {name : ByteArray} {g : Nat} (h : mget D.now name = none) : FileIn (created D name g) name g ⟨[], 0⟩ := ⟨mget_put h g, by simp [created, fget]⟩
theorem FileIn.used {D : DiskSt} {name : ByteArray} {g : Nat} {f : FileSt} (h : FileIn D name g f) (hok : DiskOk D) (f' : FileSt) : used { D with files := fset D.files g f' } + f.bytes.length = used D + f'.bytes.length := used_put hok h.name h.file f'
theorem LeftOf.fileIn {D D' : DiskSt} {keep : Nat} {b : Bool} (h : LeftOf D keep b D') {name : ByteArray} {g : Nat} {f : FileSt} (hg : (name, g) ∈ namesLeft D b) (hf : fget D.files g = some f) : ∃ g', FileIn D' name g' (kept keep f) := by
  obtain ⟨g', h1, h2⟩ := h.file _ hg
  rw [keptOf_some hf] at h2
  exact ⟨g', h1, h2⟩
theorem FileIn.all {D : DiskSt} {name : ByteArray} {g : Nat} {f : FileSt} (h : FileIn D name g f) (hn : nameOk name = true) : allOf D name = f.bytes := allOf_at hn h.name h.file
theorem kept_want (a b : ByteArray) (keep : Nat) : (⟨((kept keep ⟨a.data.toList ++ b.data.toList, a.data.toList.length⟩).bytes).toArray⟩ : ByteArray) = a ++ b.extract 0 (min (keep : Int) (b.size : Int)).toNat := by
  apply toList_inj
  have e : (min (keep : Int) (b.size : Int)).toNat = min keep b.size := by omega
  rw [e, ByteArray.toList_eq, ByteArray.toList_eq, ByteArray.data_append, Array.toList_append, ByteArray.data_extract, Array.toList_extract]
  simp only [kept, List.length_append, List.extract_eq_take_drop, List.drop_zero, Nat.sub_zero, size_toList]
  rw [List.take_append, List.take_of_length_le (by rw [size_toList]; omega), size_toList]
  congr 2; omega
theorem enc_list (L : List (List UInt8)) : L.map Go.Proofs.encStr = texts (L.map fun l => ⟨l.toArray⟩) := by
  rw [texts, List.map_map]
  apply List.map_congr_left
  intro s _
  simp [Go.Proofs.encStr]
theorem list_known (p : Nat) (D : DiskSt) (L : List (List UInt8)) (xs : List ByteArray) (N : Nat) (hL : listOf D = L) (hx : L.map Go.Proofs.encStr = texts xs) (hN : L.length = N) (w w0 : World) (S F : Asn) (m : Mod w w0 S) (t : Take S (diskA p) D F) :
    Calls Tryd.prog 40 #[.pointer (some ⟨p, 0, none⟩)] w fun e w' => ∃ B c, e = .returned (.slice B N c) ∧ Mod w' w0 (rowA 9 1 (.slice B N c) N (texts xs) * S) := by
  have h := list_spec p D w w0 S F m t
  rw [hL, hx, hN] at h
  exact h
theorem namesLeft_same {D : DiskSt} (h : D.sure = D.now) (b : Bool) : namesLeft D b = D.now := by cases b <;> simp [namesLeft, h]
set_option maxRecDepth 6000 in
set_option maxHeartbeats 4000000 in
theorem filesSure_run (A : Option Addr) (n c : Nat) (l : List ActV) (a b : ByteArray) (keep : Nat) (w w0 : World) (S : Asn) [m : Mod w w0 S] (r : ReadsActs S A n l) (hn : n ≤ 9223372036854775807) (ha : a.size ≤ 4611686018427387903) (hb : b.size ≤ 4611686018427387903) (hk : keep < 256) :
    Calls Tryd.prog 14 #[.slice A n c, .agg #[.string a, .string b], .int .u8 (keep : Int)] w fun e w' => e = .returned (.bool true) ∧ Mod w' w0 S := by
  by_cases hgr : 40000 < weight l ∨ 200 < n
  · go_enter Tryd.func14, Tryd.ntmps14
    go_wp2_with first
      | (go_at_call 33; refine (alive5_spec _ w0 _ inferInstance).mono ?_; rintro e w1 ⟨rfl, _m1⟩)
      | (go_at_call 41; refine (great_spec A n c l _ w0 _ _m1 (r.lift inferInstance) hn).mono ?_; rw [decide_eq_true hgr]; rintro e w2 ⟨rfl, _m2⟩)
    go_ret
    exact ⟨rfl, Mod.sub S⟩
  by_cases hbig : (10000 : Int) < (a.size : Int) + (b.size : Int)
  · go_enter Tryd.func14, Tryd.ntmps14
    go_wp2_with first
      | (go_at_call 33; refine (alive5_spec _ w0 _ inferInstance).mono ?_; rintro e w1 ⟨rfl, _m1⟩)
      | (go_at_call 41; refine (great_spec A n c l _ w0 _ _m1 (r.lift inferInstance) hn).mono ?_; rw [decide_eq_false hgr]; rintro e w2 ⟨rfl, _m2⟩)
    go_ret
    exact ⟨rfl, Mod.sub S⟩
  · have Hgr := Lib.hid hgr
    have hwl : weight l ≤ 40000 := by omega
    clear hgr
    go_enter Tryd.func14, Tryd.ntmps14
    go_wp2_with first
      | (go_at_call 33; refine (alive5_spec _ w0 _ inferInstance).mono ?_; rintro e w1 ⟨rfl, _m1⟩)
      | (go_at_call 41; refine (great_spec A n c l _ w0 _ _m1 (r.lift inferInstance) hn).mono ?_; rw [decide_eq_false Hgr.out]; rintro e w2 ⟨rfl, _m2⟩)
      | (go_at_call 35; refine (new_ok 1000000 _ w0 _ inferInstance (by omega) (by omega)).mono ?_; rintro e w3 ⟨p, rfl, _m3⟩)
      | (go_at_call 42; refine (does_spec p (newDisk 1000000) A n c l _ w0 _ _ inferInstance inferInstance (r.lift inferInstance) hn).mono ?_; rintro e w4 ⟨rfl, D1, hs1, hu1, _m4⟩; rw [show used (newDisk 1000000) = 0 from rfl, Nat.zero_add] at hu1; rw [show (newDisk 1000000).size = 1000000 from rfl] at hs1)
    have flag := True.intro
    go_wp2_with first
      | (go_at_call 30; clear flag; refine (remove_any p D1 mine _ w0 _ _ inferInstance inferInstance (by decide)).mono ?_; rintro e w5 ⟨r5, D2, rfl, hs2, hu2, hg2, _m5⟩; have hg2 := hg2 ok_mine)
    have hok2 := ok_of _m5 (inferInstance : Take _ (diskA p) D2 _)
    have flag := True.intro
    go_wp2_with first
      | (go_at_call 40; clear flag; refine (list_spec p D2 _ w0 _ _ inferInstance inferInstance).mono ?_; rw [length_listOf]; rintro e w6 ⟨B1, c1, rfl, _m6⟩)
    · go_ret
      exact ⟨rfl, Mod.sub S⟩
    · have hroom : D2.now.length < 64 := by omega
      have flag := True.intro
      go_wp2_with first
        | (go_at_call 28; clear flag; refine (create_ok p D2 mine _ w0 _ _ inferInstance inferInstance (by decide) ok_mine hg2 hroom).mono ?_; rintro e w7 ⟨g, rfl, hfr, _m7⟩)
      have hu3 := used_created hok2 hg2 hfr
      have F3 := FileIn.new (g := g) hg2
      have hs3 : (created D2 mine g).size = 1000000 := by show D2.size = _; omega
      generalize created D2 mine g = D3 at *
      have ok3 := ok_of _m7 (inferInstance : Take _ (diskA p) D3 _)
      have hl3 := left_used D3
      clear _m1 _m2 _m3 _m4 _m5
      have flag := True.intro
      go_wp2_with first
        | (go_at_call 29; clear flag; refine (append_str p D3 mine _ w0 _ _ inferInstance inferInstance (by decide) _ _ a g _ ok_mine F3.name F3.file (by omega) (by simp only [List.length_nil]; omega)).mono ?_; rintro e w8 ⟨rfl, _m8⟩)
      have F4 := F3.put ⟨[] ++ a.data.toList, 0⟩
      have hu4 := F3.used ok3 ⟨[] ++ a.data.toList, 0⟩
      simp only [List.nil_append, List.length_nil, size_toList] at hu4 F4 _m8
      have hs4 : ({ D3 with files := fset D3.files g ⟨a.data.toList, 0⟩ } : DiskSt).size = 1000000 := hs3
      generalize ({ D3 with files := fset D3.files g ⟨a.data.toList, 0⟩ } : DiskSt) = D4 at *
      have ok4 := ok_of _m8 (inferInstance : Take _ (diskA p) D4 _)
      have flag := True.intro
      go_wp2_with first
        | (go_at_call 38; clear flag; refine (sync_some p D4 mine _ w0 _ _ inferInstance inferInstance (by decide) g _ ok_mine F4.name F4.file).mono ?_; rintro e w9 ⟨rfl, _m9⟩)
      have F5 := F4.put ⟨a.data.toList, a.data.toList.length⟩
      have hu5 := F4.used ok4 ⟨a.data.toList, a.data.toList.length⟩
      have hs5 : ({ D4 with files := fset D4.files g ⟨a.data.toList, a.data.toList.length⟩ } : DiskSt).size = 1000000 := hs4
      try dsimp only at hu5 _m9
      generalize ({ D4 with files := fset D4.files g ⟨a.data.toList, a.data.toList.length⟩ } : DiskSt) = D5 at *
      have flag := True.intro
      go_wp2_with first
        | (go_at_call 31; clear flag; refine (names_spec p D5 _ w0 _ _ inferInstance inferInstance).mono ?_; rintro e w10 ⟨rfl, _m10⟩)
      have F6 : FileIn { D5 with sure := D5.now } mine g _ := ⟨F5.name, F5.file⟩
      have hu6 : used { D5 with sure := D5.now } = used D5 := rfl
      have hs6 : ({ D5 with sure := D5.now } : DiskSt).size = 1000000 := hs5
      have hn6 : ({ D5 with sure := D5.now } : DiskSt).sure = ({ D5 with sure := D5.now } : DiskSt).now := rfl
      generalize ({ D5 with sure := D5.now } : DiskSt) = D6 at *
      have ok6 := ok_of _m10 (inferInstance : Take _ (diskA p) D6 _)
      have hl6 := left_used D6
      have flag := True.intro
      go_wp2_with first
        | (go_at_call 29; clear flag; refine (append_str p D6 mine _ w0 _ _ inferInstance inferInstance (by decide) _ _ b g _ ok_mine F6.name F6.file (by omega) (by simp only [size_toList]; omega)).mono ?_; rintro e w11 ⟨rfl, _m11⟩)
      have F7 := F6.put ⟨a.data.toList ++ b.data.toList, a.data.toList.length⟩
      have hn7 : ({ D6 with files := fset D6.files g ⟨a.data.toList ++ b.data.toList, a.data.toList.length⟩ } : DiskSt).sure = ({ D6 with files := fset D6.files g ⟨a.data.toList ++ b.data.toList, a.data.toList.length⟩ } : DiskSt).now := hn6
      try dsimp only at _m11
      generalize ({ D6 with files := fset D6.files g ⟨a.data.toList ++ b.data.toList, a.data.toList.length⟩ } : DiskSt) = D7 at *
      have m12 : Mod w11 w0 (diskA p D7 * (blk w.heap.size (.cells #[.string a, .string b] 70 (0, 0)) * S)) := repack1 (diskA p) _m11
      clear _m11 _m10 _m9 _m8 _m7 _m6 F3 F4 F5 F6 hu3 hu4 hu5 hu6
      have flag := True.intro
      go_wp2_with first
        | (go_at_call 32; clear flag; refine (fail_left p D7 _ w0 _ _ m12 inferInstance keep _ (by omega) _ rfl).mono ?_; rintro e w13 ⟨px, Dx, rfl, hDx, _m13⟩)
      have okx := hDx.ok
      obtain ⟨gx, Fx⟩ := hDx.fileIn (by rw [namesLeft_same hn7]; exact mem_of_mget F7.name) F7.file
      have hlx : listOf Dx = listOf D7 := by rw [hDx.list, namesLeft_same hn7]; rfl
      have hnx := hDx.both
      have flag := True.intro
      go_wp2_with first
        | (go_at_call 32; clear flag; refine (fail_left px Dx _ w0 _ _ _m13 inferInstance 0 false (by omega) _ rfl).mono ?_; rintro e w14 ⟨py, Dy, rfl, hDy, _m14⟩)
      obtain ⟨gy, Fy⟩ := hDy.fileIn (by rw [namesLeft_same hnx]; exact mem_of_mget Fx.name) Fx.file
      rw [kept_kept _ _ _ (by simp)] at Fy
      have hly : listOf Dy = listOf D7 := by rw [hDy.list, namesLeft_same hnx]; exact hlx
      have hAx : (⟨(allOf Dx mine).toArray⟩ : ByteArray) = a ++ b.extract 0 (min (keep : Int) (b.size : Int)).toNat := by rw [Fx.all ok_mine]; exact kept_want a b keep
      have hAy : (⟨(allOf Dy mine).toArray⟩ : ByteArray) = a ++ b.extract 0 (min (keep : Int) (b.size : Int)).toNat := by rw [Fy.all ok_mine]; exact kept_want a b keep
      have HAx := Lib.hid hAx
      have HAy := Lib.hid hAy
      have Hlx := Lib.hid hlx
      have Hly := Lib.hid hly
      clear hAx hAy hlx hly hDx hDy Fx Fy F7
      go_quiet (fail)
      have flag := True.intro
      go_wp2_with first
        | (go_at_call 36; clear flag; refine (all_spec px Dx mine _ w0 _ _ inferInstance inferInstance (by decide)).mono ?_; rw [HAx.out]; rintro e w15 ⟨rfl, _m15⟩)
      have flag := True.intro
      go_wp2_with first
        | (go_at_call 36; clear flag; refine (all_spec py Dy mine _ w0 _ _ inferInstance inferInstance (by decide)).mono ?_; rw [HAy.out]; rintro e w16 ⟨rfl, _m16⟩)
      obtain ⟨XS, hXS⟩ : ∃ XS, (listOf D7).map Go.Proofs.encStr = texts XS := ⟨_, enc_list _⟩
      obtain ⟨N, hNN⟩ : ∃ N, (listOf D7).length = N := ⟨_, rfl⟩
      have hN64 : N ≤ 64 := by rw [← hNN, length_listOf]; exact (ok_of m12 (inferInstance : Take _ (diskA p) D7 _)).many
      have flag := True.intro
      go_wp2_with first
        | (go_at_call 40; clear flag; refine (list_known px Dx (listOf D7) XS N Hlx.out hXS hNN _ w0 _ _ inferInstance inferInstance).mono ?_; rintro e w17 ⟨B2, c2, rfl, _m17⟩)
      have flag := True.intro
      go_wp2_with first
        | (go_at_call 40; clear flag; refine (list_known py Dy (listOf D7) XS N Hly.out hXS hNN _ w0 _ _ inferInstance inferInstance).mono ?_; rintro e w18 ⟨B3, c3, rfl, _m18⟩)
      have flag := True.intro
      go_wp2_with first
        | (go_at_call 43; clear flag; refine (sameTexts_spec B2 B3 N N c2 c3 XS XS _ w0 _ inferInstance inferInstance inferInstance (by omega) (by omega)).mono ?_; rw [decide_eq_true rfl]; rintro e w19 ⟨rfl, _m19⟩)
      have flag := True.intro
      go_wp2_with first
        | (go_at_call 40; clear flag; refine (list_known px Dx (listOf D7) XS N Hlx.out hXS hNN _ w0 _ _ inferInstance inferInstance).mono ?_; rintro e w20 ⟨B4, c4, rfl, _m20⟩)
      have flag := True.intro
      go_wp2_with first
        | (go_at_call 40; clear flag; refine (list_known p D7 (listOf D7) XS N rfl hXS hNN _ w0 _ _ inferInstance inferInstance).mono ?_; rintro e w21 ⟨B5, c5, rfl, _m21⟩)
      have flag := True.intro
      go_wp2_with first
        | (go_at_call 43; clear flag; refine (sameTexts_spec B4 B5 N N c4 c5 XS XS _ w0 _ inferInstance inferInstance inferInstance (by omega) (by omega)).mono ?_; rw [decide_eq_true rfl]; rintro e w22 ⟨rfl, _m22⟩)
      go_ret
      exact ⟨rfl, Mod.sub S⟩
theorem filesSure_walk (A : Option Addr) (n c : Nat) (a b : ByteArray) (k : Int) (w w0 : World) (S : Asn) [m : Mod w w0 S] {q : Prop} (_ : q) (hk : (Lit.int .u8 k).wf = true) (hs : (a.size ≤ reachBytes ∧ b.size ≤ reachBytes) ∧ ∃ l, ReadsActs S A n l ∧ n ≤ 9223372036854775807) :
    Calls Tryd.prog 14 #[.slice A n c, .agg #[.string a, .string b], .int .u8 k] w fun e w' => e = .returned (.bool true) ∧ Mod w' w0 S := by
  obtain ⟨j, rfl, hj⟩ := wf_u8 hk
  obtain ⟨⟨h1, h2⟩, l, hr, hn⟩ := hs
  unfold reachBytes at h1 h2
  exact filesSure_run A n c l a b j w w0 S hr hn (by omega) (by omega) hj
end Go.Proofs.YtabekogiaobnfaaDoor
