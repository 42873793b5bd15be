/- The walks of the laws' sizes of asks, replies, items and what was said: contracts over the small separation logic; the conditions are in each theorem. -/
import Derived.Test.YtkdiejbpleojnaaGreatDoorSizes
import Derived.Deep.MidRow
namespace Go.Proofs.YtkdiejbpleojnaaGreatDoor
open Go.ChangeShapes Go.WideShapes Go.ChangeAt Go.RowKit Go.Sl Go.Deep
attribute [local go_sem] cell_of cellAt_of frozen_of zero_names
section
variable {H : Type} {enc : TypeId × Value → H} {W : World} {base : Nat} {held : Bool}
theorem range_of {w w0 : World} {S : Asn} {b o n : Nat} {L : List Value} (m : Mod w w0 S) (r : Reads S (some ⟨b, o, none⟩) n L) (hn : 0 < n) (d : Nat) (cs : List Value) (h : ∀ j v, cs[j]? = some v → L[d + j]? = some v) : w.rangeAt b (o + d) cs := fun j v hv => by
  obtain ⟨ad, ha, _, hc⟩ := reads_cell m r hn
  injection ha with ha
  subst ha
  have := hc _ v (h j v hv)
  rw [Nat.add_assoc]; exact this
set_option maxRecDepth 100000 in
theorem und_item : ∃ fs, Tryz.prog.underlying 258 = some (.struct fs) := ⟨_, Tryz.underlying258⟩
set_option maxRecDepth 100000 in
theorem size_item : (Tryz.prog.info? 258).map (·.size) = some 11 := by kernel_rfl
set_option maxRecDepth 100000 in
theorem und_said : ∃ fs, Tryz.prog.underlying 263 = some (.struct fs) := ⟨_, Tryz.underlying263⟩
set_option maxRecDepth 100000 in
theorem size_said : (Tryz.prog.info? 263).map (·.size) = some 5 := by kernel_rfl
set_option maxRecDepth 100000 in
theorem cells_ask : Tryz.prog.cellsOf 256 = 8 := by kernel_rfl
set_option maxRecDepth 100000 in
theorem cells_item : Tryz.prog.cellsOf 258 = 11 := by kernel_rfl
set_option maxRecDepth 100000 in
theorem cells_said : Tryz.prog.cellsOf 263 = 5 := by kernel_rfl
set_option maxRecDepth 100000 in
theorem cells_kind : Tryz.prog.cellsOf 254 = 1 := by kernel_rfl
set_option maxRecDepth 100000 in
theorem cells_changes : Tryz.prog.cellsOf 235 = 1 := by kernel_rfl
set_option maxRecDepth 100000 in
theorem lies_ask {cs : List Value} (h : Lies enc W base held 256 cs) : ∃ (v0 : Value) (key val old : ByteArray) (nw : Bool) (to : ByteArray) (many : Value) (a : Option Addr) (n c : Nat), cs = [v0, .string key, .string val, .string old, .bool nw, .string to, many, .slice a n c] ∧ v0.oneCell' = true ∧ many.oneCell' = true ∧ Lies enc W base held 235 [.slice a n c] := by
  obtain ⟨f, x, h⟩ := h
  obtain ⟨xs, k, hk, hxy, hl, hxl, hf⟩ := DataW.trod_struct Tryz.underlying256 h
  rw [cells_ask] at hl
  match xs, hxl, cs, hl with
  | [y0, y1, y2, y3, y4, y5, y6, y7], _, [v0, v1, v2, v3, v4, v5, v6, v7], _ =>
    have g0 := hf 0 _ rfl
    have g1 := hf 1 _ rfl
    have g2 := hf 2 _ rfl
    have g3 := hf 3 _ rfl
    have g4 := hf 4 _ rfl
    have g5 := hf 5 _ rfl
    have g6 := hf 6 _ rfl
    have g7 := hf 7 _ rfl
    simp [cells_kind, cells_string, cells_bool, cells_int, cells_changes] at g0 g1 g2 g3 g4 g5 g6 g7
    obtain ⟨n0, e0, _, _⟩ := DataW.trod_int Tryz.underlying254 g0
    obtain ⟨s1, e1, _, _⟩ := DataW.trod_string Tryz.underlying9 g1
    obtain ⟨s2, e2, _, _⟩ := DataW.trod_string Tryz.underlying9 g2
    obtain ⟨s3, e3, _, _⟩ := DataW.trod_string Tryz.underlying9 g3
    obtain ⟨b4, e4, _⟩ := DataW.trod_bool Tryz.underlying4 g4
    obtain ⟨s5, e5, _, _⟩ := DataW.trod_string Tryz.underlying9 g5
    obtain ⟨n6, e6, _, _⟩ := DataW.trod_int Tryz.underlying3 g6
    obtain ⟨a7, n7, c7, e7⟩ := any_slice Tryz.underlying235 g7
    simp at e0 e1 e2 e3 e4 e5 e6
    subst e0 e1 e2 e3 e4 e5 e6 e7
    exact ⟨_, s1, s2, s3, b4, s5, _, a7, n7, c7, rfl, rfl, rfl, _, _, g7⟩
set_option maxRecDepth 100000 in
theorem lies_reply {cs : List Value} (h : Lies enc W base held 96 cs) : ∃ (v0 : Value) (b : Bool) (a : Option Addr) (n c : Nat), cs = [v0, .bool b, .slice a n c] ∧ v0.oneCell' = true ∧ Lies enc W base held 93 [.slice a n c] := by
  obtain ⟨f, x, h⟩ := h
  obtain ⟨xs, k, hk, hxy, hl, hxl, hf⟩ := DataW.trod_struct Tryz.underlying96 h
  rw [cells_reply] at hl
  match xs, hxl, cs, hl with
  | [y0, y1, y2], _, [v0, v1, v2], _ =>
    have g0 := hf 0 _ rfl
    have g1 := hf 1 _ rfl
    have g2 := hf 2 _ rfl
    simp [cells_errno, cells_bool, cells_rows] at g0 g1 g2
    obtain ⟨n0, e0, _, _⟩ := DataW.trod_int Tryz.underlying25 g0
    obtain ⟨b1, e1, _⟩ := DataW.trod_bool Tryz.underlying4 g1
    obtain ⟨a2, n2, c2, e2⟩ := any_slice Tryz.underlying93 g2
    simp at e0 e1
    subst e0 e1 e2
    exact ⟨_, b1, a2, n2, c2, rfl, rfl, _, _, g2⟩
set_option maxRecDepth 4000 in
set_option maxHeartbeats 1000000 in
theorem ask_size (cs : List Value) (h : Lies enc W base held 256 cs) (w w0 : World) (S : Asn) (m : Mod w w0 S) (s : Sub S (just (hp W))) : Calls Tryz.prog 294 #[.agg cs.toArray] w fun e w' => (∃ z : Int, e = .returned (.int .i64 z)) ∧ Mod w' w0 S := by
  obtain ⟨v0, key, val, old, nw, to, many, a, n, c, rfl, h0, h6, hL⟩ := lies_ask h
  have HL := Lib.hid hL
  clear h hL
  go_enter Tryz.func294, Tryz.ntmps294
  go_wp2_with (go_at_call 328; refine (changes_size a n c HL.out _ w0 _ inferInstance (by infer_instance)).mono ?_; rintro e w1 ⟨⟨z, rfl⟩, m1⟩)
  all_goals
    go_ret
    exact ⟨⟨_, rfl⟩, Mod.drop (m := (inferInstance : Mod _ w0 _))⟩
set_option maxRecDepth 4000 in
set_option maxHeartbeats 1000000 in
theorem reply_size (cs : List Value) (h : Lies enc W base held 96 cs) (w w0 : World) (S : Asn) (m : Mod w w0 S) (s : Sub S (just (hp W))) : Calls Tryz.prog 199 #[.agg cs.toArray] w fun e w' => (∃ z : Int, e = .returned (.int .i64 z)) ∧ Mod w' w0 S := by
  obtain ⟨v0, b, a, n, c, rfl, h0, hL⟩ := lies_reply h
  have HL := Lib.hid hL
  clear h hL
  go_enter Tryz.func199, Tryz.ntmps199
  go_wp2_with (go_at_call 197; refine (rows_size a n c HL.out _ w0 _ inferInstance (by infer_instance)).mono ?_; rintro e w1 ⟨⟨z, rfl⟩, m1⟩)
  all_goals
    go_ret
    exact ⟨⟨_, rfl⟩, Mod.drop (m := (inferInstance : Mod _ w0 _))⟩
set_option maxRecDepth 100000 in
theorem lies_item {cs : List Value} (h : Lies enc W base held 258 cs) : ∃ (v0 v1 v2 : Value) (ask : List Value), cs = v0 :: v1 :: v2 :: ask ∧ v0.oneCell' = true ∧ v1.oneCell' = true ∧ v2.oneCell' = true ∧ Lies enc W base held 256 ask := by
  obtain ⟨f, x, h⟩ := h
  obtain ⟨xs, k, hk, hxy, hl, hxl, hf⟩ := DataW.trod_struct Tryz.underlying258 h
  rw [cells_item] at hl
  match xs, hxl, cs, hl with
  | [y0, y1, y2, y3], _, [v0, v1, v2, v3, v4, v5, v6, v7, v8, v9, v10], _ =>
    have g0 := hf 0 _ rfl
    have g1 := hf 1 _ rfl
    have g2 := hf 2 _ rfl
    have g3 := hf 3 _ rfl
    simp [cells_u64, cells_u8, cells_u32, cells_ask] at g0 g1 g2 g3
    obtain ⟨n0, e0, _, _⟩ := DataW.trod_int Tryz.underlying90 g0
    obtain ⟨n1, e1, _, _⟩ := DataW.trod_int Tryz.underlying5 g1
    obtain ⟨n2, e2, _, _⟩ := DataW.trod_int Tryz.underlying87 g2
    simp at e0 e1 e2
    subst e0 e1 e2
    exact ⟨_, _, _, _, rfl, rfl, rfl, rfl, _, _, g3⟩
set_option maxRecDepth 100000 in
theorem lies_said {cs : List Value} (h : Lies enc W base held 263 cs) : ∃ (v0 v1 : Value) (rp : List Value), cs = v0 :: v1 :: rp ∧ v0.oneCell' = true ∧ v1.oneCell' = true ∧ Lies enc W base held 96 rp := by
  obtain ⟨f, x, h⟩ := h
  obtain ⟨xs, k, hk, hxy, hl, hxl, hf⟩ := DataW.trod_struct Tryz.underlying263 h
  rw [cells_said] at hl
  match xs, hxl, cs, hl with
  | [y0, y1, y2], _, [v0, v1, v2, v3, v4], _ =>
    have g0 := hf 0 _ rfl
    have g1 := hf 1 _ rfl
    have g2 := hf 2 _ rfl
    simp [cells_u8, cells_u32, cells_reply] at g0 g1 g2
    obtain ⟨n0, e0, _, _⟩ := DataW.trod_int Tryz.underlying5 g0
    obtain ⟨n1, e1, _, _⟩ := DataW.trod_int Tryz.underlying87 g1
    simp at e0 e1
    subst e0 e1
    exact ⟨_, _, _, rfl, rfl, rfl, _, _, g2⟩
set_option maxRecDepth 4000 in
set_option maxHeartbeats 1000000 in
theorem item_size (cs : List Value) (h : Lies enc W base held 258 cs) (w w0 : World) (S : Asn) (m : Mod w w0 S) (s : Sub S (just (hp W))) : Calls Tryz.prog 259 #[.agg cs.toArray] w fun e w' => (∃ z : Int, e = .returned (.int .i64 z)) ∧ Mod w' w0 S := by
  obtain ⟨u0, u1, u2, ask, rfl, q0, q1, q2, hA⟩ := lies_item h
  obtain ⟨v0, key, val, old, nw, to, many, a, n, c, rfl, h0, h6, _⟩ := lies_ask hA
  have HA := Lib.hid hA
  clear h hA
  go_enter Tryz.func259, Tryz.ntmps259
  go_wp2_with (go_at_call 294; refine (ask_size _ HA.out _ w0 _ inferInstance (by infer_instance)).mono ?_; rintro e w1 ⟨⟨z, rfl⟩, m1⟩)
  all_goals
    go_ret
    exact ⟨⟨_, rfl⟩, Mod.drop (m := (inferInstance : Mod _ w0 _))⟩
set_option maxRecDepth 4000 in
set_option maxHeartbeats 1000000 in
theorem said_size (cs : List Value) (h : Lies enc W base held 263 cs) (w w0 : World) (S : Asn) (m : Mod w w0 S) (s : Sub S (just (hp W))) : Calls Tryz.prog 260 #[.agg cs.toArray] w fun e w' => (∃ z : Int, e = .returned (.int .i64 z)) ∧ Mod w' w0 S := by
  obtain ⟨u0, u1, rp, rfl, q0, q1, hA⟩ := lies_said h
  obtain ⟨v0, b, a, n, c, rfl, h0, _⟩ := lies_reply hA
  have HA := Lib.hid hA
  clear h hA
  go_enter Tryz.func260, Tryz.ntmps260
  go_wp2_with (go_at_call 199; refine (reply_size _ HA.out _ w0 _ inferInstance (by infer_instance)).mono ?_; rintro e w1 ⟨⟨z, rfl⟩, m1⟩)
  all_goals
    go_ret
    exact ⟨⟨_, rfl⟩, Mod.drop (m := (inferInstance : Mod _ w0 _))⟩
set_option maxRecDepth 4000 in
set_option maxHeartbeats 1000000 in
theorem items_size (a : Option Addr) (n c : Nat) (h : Lies enc W base held 92 [.slice a n c]) (w w0 : World) (S : Asn) (m : Mod w w0 S) (s : Sub S (just (hp W))) : Calls Tryz.prog 196 #[.slice a n c] w fun e w' => (∃ z : Int, e = .returned (.int .i64 z)) ∧ Mod w' w0 S := by
  obtain ⟨L, r, hnc, hc, hel⟩ := h.cells Tryz.underlying92 cells_item (by decide)
  have r2 := reads_lift s r
  have Hel := Lib.hid hel
  clear hel r h
  go_enter Tryz.func196, Tryz.ntmps196
  go_wp2_with fail
  have hN : (n : Int) ≤ 9223372036854775807 := by unfold maxLen at hc; omega
  obtain ⟨fs, hu⟩ := und_item
  have Hu := Lib.hid hu
  clear hu
  go_loopg [3, 4] n (fun gk zv iv wr => ∃ (i : Nat) (z : Int), i ≤ n ∧ gk = n - i ∧ zv = .int .i64 z ∧ iv = .int .i64 (i : Int) ∧ Mod wr w0 S)
  case atStart => exact ⟨0, _, by omega, rfl, rfl, rfl, m⟩
  case round =>
    obtain ⟨i, z, hi, hgk, rfl, rfl, m1⟩ := hrel
    by_cases hlt : i < n
    · have hii : (i : Int) < (n : Int) := by omega
      by_cases hz : z ≤ 1048576
      · obtain ⟨cs, hcl, hlies, hcell⟩ := Hel.out i hlt
        obtain ⟨⟨bn, on_, sp⟩, hA, hsp, hxx⟩ := reads_cell m1 r2 (by omega)
        clear hxx
        simp only at hsp
        subst hsp hA
        have Hr := Lib.hid (range_of m1 r2 (by omega) (i * 11) cs (fun j v hv => by rw [hcell j (by rw [← hcl]; exact (List.getElem?_eq_some_iff.1 hv).1)]; exact hv))
        have Hcl := Lib.hid hcl
        have Hlies := Lib.hid hlies
        clear hcell hcl hlies
        go_wp2_with first | (refine wpList_load_mid rfl 258 _ rfl bn (on_ + i * 11) rfl cs _ Hr.out Hu.out rfl (by rw [size_item, Hcl.out]) ?_) | (go_at_call 259; refine (item_size cs Hlies.out wr w0 S m1 s).mono ?_; rintro e w5 ⟨⟨z2, rfl⟩, m5⟩)
        go_roundg (n - (i + 1))
        case measure => omega
        case rel => exact ⟨i + 1, _, by omega, rfl, rfl, by go_num, m5⟩
      · go_wp2_with fail
        go_ret
        exact ⟨⟨_, rfl⟩, m1⟩
    · have hi2 : i = n := by omega
      subst hi2
      have hii : ¬ ((i : Int) < (i : Int)) := by omega
      go_wp2_with fail
      go_ret
      exact ⟨⟨_, rfl⟩, m1⟩
set_option maxRecDepth 4000 in
set_option maxHeartbeats 1000000 in
theorem saids_size (a : Option Addr) (n c : Nat) (h : Lies enc W base held 94 [.slice a n c]) (w w0 : World) (S : Asn) (m : Mod w w0 S) (s : Sub S (just (hp W))) : Calls Tryz.prog 198 #[.slice a n c] w fun e w' => (∃ z : Int, e = .returned (.int .i64 z)) ∧ Mod w' w0 S := by
  obtain ⟨L, r, hnc, hc, hel⟩ := h.cells Tryz.underlying94 cells_said (by decide)
  have r2 := reads_lift s r
  have Hel := Lib.hid hel
  clear hel r h
  go_enter Tryz.func198, Tryz.ntmps198
  go_wp2_with fail
  have hN : (n : Int) ≤ 9223372036854775807 := by unfold maxLen at hc; omega
  obtain ⟨fs, hu⟩ := und_said
  have Hu := Lib.hid hu
  clear hu
  go_loopg [3, 4] n (fun gk zv iv wr => ∃ (i : Nat) (z : Int), i ≤ n ∧ gk = n - i ∧ zv = .int .i64 z ∧ iv = .int .i64 (i : Int) ∧ Mod wr w0 S)
  case atStart => exact ⟨0, _, by omega, rfl, rfl, rfl, m⟩
  case round =>
    obtain ⟨i, z, hi, hgk, rfl, rfl, m1⟩ := hrel
    by_cases hlt : i < n
    · have hii : (i : Int) < (n : Int) := by omega
      by_cases hz : z ≤ 1048576
      · obtain ⟨cs, hcl, hlies, hcell⟩ := Hel.out i hlt
        obtain ⟨⟨bn, on_, sp⟩, hA, hsp, hxx⟩ := reads_cell m1 r2 (by omega)
        clear hxx
        simp only at hsp
        subst hsp hA
        have Hr := Lib.hid (range_of m1 r2 (by omega) (i * 5) cs (fun j v hv => by rw [hcell j (by rw [← hcl]; exact (List.getElem?_eq_some_iff.1 hv).1)]; exact hv))
        have Hcl := Lib.hid hcl
        have Hlies := Lib.hid hlies
        clear hcell hcl hlies
        go_wp2_with first | (refine wpList_load_mid rfl 263 _ rfl bn (on_ + i * 5) rfl cs _ Hr.out Hu.out rfl (by rw [size_said, Hcl.out]) ?_) | (go_at_call 260; refine (said_size cs Hlies.out wr w0 S m1 s).mono ?_; rintro e w5 ⟨⟨z2, rfl⟩, m5⟩)
        go_roundg (n - (i + 1))
        case measure => omega
        case rel => exact ⟨i + 1, _, by omega, rfl, rfl, by go_num, m5⟩
      · go_wp2_with fail
        go_ret
        exact ⟨⟨_, rfl⟩, m1⟩
    · have hi2 : i = n := by omega
      subst hi2
      have hii : ¬ ((i : Int) < (i : Int)) := by omega
      go_wp2_with fail
      go_ret
      exact ⟨⟨_, rfl⟩, m1⟩
set_option maxRecDepth 100000 in
theorem lies_msg {cs : List Value} (h : Lies enc W base held 98 cs) : ∃ (u0 u1 u2 u3 u4 u5 u6 u7 : Value) (a8 : Option Addr) (n8 c8 : Nat) (a9 : Option Addr) (n9 c9 : Nat) (a10 : Option Addr) (n10 c10 : Nat) (a11 : Option Addr) (n11 c11 : Nat) (a12 : Option Addr) (n12 c12 : Nat) (rp : List Value),
    cs = u0 :: u1 :: u2 :: u3 :: u4 :: u5 :: u6 :: u7 :: .slice a8 n8 c8 :: .slice a9 n9 c9 :: .slice a10 n10 c10 :: .slice a11 n11 c11 :: .slice a12 n12 c12 :: rp ∧ (u0.oneCell' && u1.oneCell' && u2.oneCell' && u3.oneCell' && u4.oneCell' && u5.oneCell' && u6.oneCell' && u7.oneCell') = true ∧
      Lies enc W base held 92 [.slice a10 n10 c10] ∧ Lies enc W base held 93 [.slice a11 n11 c11] ∧ Lies enc W base held 94 [.slice a12 n12 c12] ∧ Lies enc W base held 96 rp := by
  obtain ⟨f, x, h⟩ := h
  obtain ⟨xs, k, hk, hxy, hl, hxl, hf⟩ := DataW.trod_struct Tryz.underlying98 h
  rw [cells_msg] at hl
  match xs, hxl, cs, hl with
  | [y0, y1, y2, y3, y4, y5, y6, y7, y8, y9, y10, y11, y12, y13], _, [v0, v1, v2, v3, v4, v5, v6, v7, v8, v9, v10, v11, v12, v13, v14, v15], _ =>
    have g0 := hf 0 _ rfl
    have g1 := hf 1 _ rfl
    have g2 := hf 2 _ rfl
    have g3 := hf 3 _ rfl
    have g4 := hf 4 _ rfl
    have g5 := hf 5 _ rfl
    have g6 := hf 6 _ rfl
    have g7 := hf 7 _ rfl
    have g8 := hf 8 _ rfl
    have g9 := hf 9 _ rfl
    have g10 := hf 10 _ rfl
    have g11 := hf 11 _ rfl
    have g12 := hf 12 _ rfl
    have g13 := hf 13 _ rfl
    simp [cells_u8, cells_say, cells_u32, cells_level, cells_u64, cells_bytes, cells_u64s, cells_items, cells_rows, cells_saids, cells_reply] at g0 g1 g2 g3 g4 g5 g6 g7 g8 g9 g10 g11 g12 g13
    obtain ⟨n0, e0, x0, w0⟩ := DataW.trod_int Tryz.underlying88 g0
    obtain ⟨n1, e1, x1, w1⟩ := DataW.trod_int Tryz.underlying5 g1
    obtain ⟨n2, e2, x2, w2⟩ := DataW.trod_int Tryz.underlying5 g2
    obtain ⟨n3, e3, x3, w3⟩ := DataW.trod_int Tryz.underlying87 g3
    obtain ⟨n4, e4, x4, w4⟩ := DataW.trod_int Tryz.underlying89 g4
    obtain ⟨n5, e5, x5, w5⟩ := DataW.trod_int Tryz.underlying87 g5
    obtain ⟨n6, e6, x6, w6⟩ := DataW.trod_int Tryz.underlying90 g6
    obtain ⟨n7, e7, x7, w7⟩ := DataW.trod_int Tryz.underlying90 g7
    obtain ⟨a8, m8, c8, e8⟩ := any_slice Tryz.underlying46 g8
    obtain ⟨a9, m9, c9, e9⟩ := any_slice Tryz.underlying91 g9
    obtain ⟨a10, m10, c10, e10⟩ := any_slice Tryz.underlying92 g10
    obtain ⟨a11, m11, c11, e11⟩ := any_slice Tryz.underlying93 g11
    obtain ⟨a12, m12, c12, e12⟩ := any_slice Tryz.underlying94 g12
    simp at e0 e1 e2 e3 e4 e5 e6 e7
    subst e0 e1 e2 e3 e4 e5 e6 e7 e8 e9 e10 e11 e12
    exact ⟨_, _, _, _, _, _, _, _, a8, m8, c8, a9, m9, c9, a10, m10, c10, a11, m11, c11, a12, m12, c12, _, rfl, rfl, ⟨_, _, g10⟩, ⟨_, _, g11⟩, ⟨_, _, g12⟩, _, _, g13⟩
end
end Go.Proofs.YtkdiejbpleojnaaGreatDoor
