/- Strings and rows of texts: conversions, and the laws' helpers SameTexts and TextsSize: contracts over the small separation logic; the conditions are in each theorem. -/
import Derived.Test.YtmpgnnjhgjfgaaaDoorDisk7
import Derived.Laws.IdiomStrings
import Derived.Laws.BytesArg
import Derived.Lib.SmallJoins
import Derived.Laws.MakeOwn
namespace Go.Proofs.YtmpgnnjhgjfgaaaDoor
open Go.RowKit Go.Sl
attribute [local go_sem] cell_of frozen_of zero_names
/-- What '[]byte(s)' lays. -/
def strA (g : Nat) (s : ByteArray) (cap : Nat) (e : TypeId) (fr : Nat × Nat) : Asn := blk g (.cells (bytesRow s cap) e fr)
instance (priority := 2000) allocStr {w w0 : World} {S : Asn} {n cap : Nat} {s : ByteArray} {e : TypeId} {fr : Nat × Nat} [hn : HpSize w n] [m : Mod w w0 S] : Mod (w.alloc (.cells (bytesRow s cap) e fr)) w0 (strA n s cap e fr * S) := Mod.alloc (m := m) (hn := hn) _
theorem size_toList (s : ByteArray) : s.data.toList.length = s.size := by rw [Array.length_toList]; rfl
instance Reads.str (g : Nat) (s : ByteArray) (cap : Nat) (e : TypeId) (fr : Nat × Nat) : Reads (strA g s cap e fr) (some ⟨g, 0, none⟩) s.size (u8s s.data.toList) :=
  ⟨fun _ _ => by rw [length_u8s, size_toList], fun h hh _ => by
    refine ⟨_, rfl, rfl, fun j u hu => ⟨bytesRow s cap, e, fr, by rw [show h = Hp.one g (.cells (bytesRow s cap) e fr) from hh]; simp [Hp.one], ?_⟩⟩
    have hj : j < s.data.size := by
      have := (List.getElem?_eq_some_iff.1 hu).1
      rw [length_u8s, Array.length_toList] at this
      exact this
    simp only [Nat.zero_add]
    unfold bytesRow
    rw [Array.getElem?_append_left (by simpa using hj)]
    simp only [u8s, List.getElem?_map, Array.getElem?_toList] at hu
    simpa using hu⟩
theorem conv_sb (w : World) (s : ByteArray) : (convert 9 35 (.string s)).run Tryd.prog w = .ok (.slice (some ⟨w.heap.size, 0, none⟩) s.size (grownCap w s.size 0 5))
      (w.drew.alloc (.cells (bytesRow s (grownCap w s.size 0 5)) 5 ((bytesRow s (grownCap w s.size 0 5)).size, (bytesRow s (grownCap w s.size 0 5)).size + 1))) :=
  run_bytes_of_string w _ _ _ s (by kernel_rfl) (by kernel_rfl) (by kernel_rfl)
theorem conv_bs {w w0 : World} {S : Asn} {B : Option Addr} {n c : Nat} {l : List UInt8} [m : Mod w w0 S] [r : Reads S B n (u8s l)] : (convert 35 9 (.slice B n c)).run Tryd.prog w = .ok (.string ⟨l.toArray⟩) w := by
  have hlen := reads_len m r
  rw [length_u8s] at hlen
  cases B with
  | none =>
    have h0 : n = 0 := by
      rcases Nat.eq_zero_or_pos n with h | h
      · exact h
      · obtain ⟨ad, ha, _⟩ := reads_cell m r h; cases ha
    subst h0
    have hl : l = [] := List.eq_nil_of_length_eq_zero hlen
    subst hl
    exact run_convert_bytes_nil w 35 5 (by kernel_rfl) (by kernel_rfl) 0 c 9 (by kernel_rfl)
  | some ad =>
    subst hlen
    refine run_convert_bytes_back w 35 9 5 ad c l (by kernel_rfl) (by kernel_rfl) (by kernel_rfl) fun j hj => ?_
    obtain ⟨ad', ha, hs, hc⟩ := reads_cell m r (by omega)
    injection ha with ha
    subst ha
    rw [add_off ad j hs]
    exact hc j _ (by simp [u8s, hj])
theorem conv_nil (w : World) (n c : Nat) : (convert 35 9 (.slice none n c)).run Tryd.prog w = .ok (.string ⟨#[]⟩) w := run_convert_bytes_nil w 35 5 (by kernel_rfl) (by kernel_rfl) n c 9 (by kernel_rfl)
theorem conv_const (w : World) (C : Array Value) (n c g : Nat) [h : HpSize w g] : (convert 35 35 (.slice (some ⟨g, 0, none⟩) n c)).run Tryd.prog (w.alloc (.cells C 5)) = .ok (.slice (some ⟨g, 0, none⟩) n c) (w.alloc (.cells C 5 (C.size, C.size + 1))) :=
  Go.Joins.run_convert_bytes_const_at w 35 5 C n c g h.eq.symm (by kernel_rfl) (by kernel_rfl)
theorem info_u8 : ∃ i, Tryd.prog.info? 5 = some i ∧ i.zero = some (.int .u8 0) ∧ i.size = 1 ∧ i.bytes = 1 := by
  have h : (Tryd.prog.info? 5).map (fun i => (i.zero, i.size, i.bytes)) = some (some (.int .u8 0), 1, 1) := by kernel_rfl
  obtain ⟨i, hi, he⟩ := Option.map_eq_some_iff.1 h
  injection he with h1 h2
  injection h2 with h2 h3
  exact ⟨i, hi, h1, h2, h3⟩
theorem make_bytes (w : World) (n : Int) (h0 : 0 ≤ n) (h : n ≤ 281474976710656) : (Instr.makeSlice 35 (.int .i64 n) (.int .i64 n)).run Tryd.prog w = .ok (.slice (some ⟨w.heap.size, 0, none⟩) n.toNat n.toNat) (w.alloc (.cells (madeCells #[.int .u8 0] n.toNat) 5)) := by
  obtain ⟨i, hi, hz, hs, hb⟩ := info_u8
  have := run_make w 35 5 i (.int .u8 0) (by kernel_rfl) hi hz .i64 .i64 n n h0 (Int.le_refl n) (by rw [hb]; omega) (by omega)
  rw [this, hs, Nat.mul_one]
  rfl
attribute [local go_sem] conv_bs conv_nil
/-- The file at a name. -/
def fileAt (D : DiskSt) (name : ByteArray) : Option FileSt := if nameOk name then (mget D.now name).bind (fget D.files) else none
def allOf (D : DiskSt) (name : ByteArray) : List UInt8 := match fileAt D name with | some f => f.bytes | none => []
section
variable (p : Nat) (D : DiskSt) (name : ByteArray) (w w0 : World) (S F : Asn) (m : Mod w w0 S) (t : Take S (diskA p) D F) (hs : name.size ≤ 9223372036854775807)
include m t hs
set_option maxHeartbeats 1000000 in
theorem all_some (g : Nat) (f : FileSt) (hn : nameOk name = true) (hg : mget D.now name = some g) (hf : fget D.files g = some f) :
    Calls Tryd.prog 29 #[.pointer (some ⟨p, 0, none⟩), .string name] w fun e w' => e = .returned (.string ⟨f.bytes.toArray⟩) ∧ Mod w' w0 S := by
  have hfl : f.bytes.length ≤ 1048576 := by obtain ⟨rn, rs, hok, _⟩ := disk_open m t; exact hok.len _ (mem_of_fget _ _ _ hf)
  have Hn := Lib.hid hn
  have Hg := Lib.hid hg
  have Hf := Lib.hid hf
  clear hn hg hf
  go_enter Tryd.func29, Tryd.ntmps29
  go_wp2_with first
    | (go_at_call 16; refine (size_some p D name g f _ w0 S F m t hs Hn.out Hg.out Hf.out).mono ?_; rintro e w' ⟨rfl, _inst⟩)
    | (go_at_call 17; refine (read_ok p D name _ w0 S F _inst t hs 0 f.bytes.length g f Hn.out Hg.out Hf.out (by omega)).mono ?_; rintro e w2 ⟨B, c, rfl, _m2⟩)
  go_ret
  exact ⟨rfl, Mod.drop (m := _m2)⟩
set_option maxHeartbeats 1000000 in
theorem all_none (hn : nameOk name = true) (hg : mget D.now name = none) :
    Calls Tryd.prog 29 #[.pointer (some ⟨p, 0, none⟩), .string name] w fun e w' => e = .returned (.string ⟨#[]⟩) ∧ Mod w' w0 S := by
  have Hn := Lib.hid hn
  have Hg := Lib.hid hg
  clear hn hg
  go_enter Tryd.func29, Tryd.ntmps29
  go_wp2_with first
    | (go_at_call 16; refine (size_none p D name _ w0 S F m t hs Hn.out Hg.out).mono ?_; rintro e w' ⟨rfl, _inst⟩)
    | (go_at_call 17; refine (read_none p D name _ w0 S F _inst t hs 0 0 Hn.out Hg.out).mono ?_; rintro e w2 ⟨rfl, _m2⟩)
  go_ret
  exact ⟨rfl, _m2⟩
set_option maxHeartbeats 1000000 in
theorem all_arg (hn : nameOk name = false) :
    Calls Tryd.prog 29 #[.pointer (some ⟨p, 0, none⟩), .string name] w fun e w' => e = .returned (.string ⟨#[]⟩) ∧ Mod w' w0 S := by
  have Hn := Lib.hid hn
  clear hn
  go_enter Tryd.func29, Tryd.ntmps29
  go_wp2_with first
    | (go_at_call 16; refine (size_arg p D name _ w0 S F m t hs Hn.out).mono ?_; rintro e w' ⟨rfl, _inst⟩)
    | (go_at_call 17; refine (read_arg p D name _ w0 S F _inst t hs 0 0 (by simp [Hn.out])).mono ?_; rintro e w2 ⟨rfl, _m2⟩)
  go_ret
  exact ⟨rfl, _m2⟩
theorem all_spec : Calls Tryd.prog 29 #[.pointer (some ⟨p, 0, none⟩), .string name] w fun e w' => e = .returned (.string ⟨(allOf D name).toArray⟩) ∧ Mod w' w0 S := by
  cases hn : nameOk name with
  | false =>
    have e : allOf D name = [] := by unfold allOf fileAt; rw [hn]; rfl
    rw [e]
    exact all_arg p D name w w0 S F m t hs hn
  | true =>
    cases hg : mget D.now name with
    | none =>
      have e : allOf D name = [] := by unfold allOf fileAt; rw [hn, hg]; rfl
      rw [e]
      exact all_none p D name w w0 S F m t hs hn hg
    | some g =>
      have hok : DiskOk D := by obtain ⟨rn, rs, hok, _⟩ := disk_open m t; exact hok
      obtain ⟨f, hf⟩ := Option.isSome_iff_exists.1 (hok.now _ (mem_of_mget hg))
      have e : allOf D name = f.bytes := by unfold allOf fileAt; rw [hn, hg]; simp only [Option.bind_some, if_true]; rw [hf]
      rw [e]
      exact all_some p D name w w0 S F m t hs g f hn hg hf
end
/-! ### Rows of texts -/
theorem toList_inj {x y : ByteArray} (h : x.toList = y.toList) : x = y := by
  rw [ByteArray.toList_eq, ByteArray.toList_eq] at h
  have h2 : x.data = y.data := Array.toList_inj.1 h
  cases x; cases y; exact congrArg _ h2
theorem eql_same {xs ys : List ByteArray} : xs = ys ↔ xs.length = ys.length ∧ ∀ i (h1 : i < xs.length) (h2 : i < ys.length), xs[i] = ys[i] :=
  ⟨fun h => by subst h; exact ⟨rfl, fun _ _ _ => rfl⟩, fun ⟨h1, h2⟩ => List.ext_getElem h1 h2⟩
abbrev texts (l : List ByteArray) : List Value := l.map Value.string
theorem reads_text {w w0 : World} {S : Asn} {B : Option Addr} {n : Nat} {l : List ByteArray} (m : Mod w w0 S) (r : Reads S B n (texts l)) (hn : 0 < n) :
    ∃ b o, B = some ⟨b, o, none⟩ ∧ ∀ j (h : j < l.length), w.cell? ⟨b, o + j, none⟩ = some (.string l[j]) := by
  obtain ⟨ad, ha, hs, hc⟩ := reads_cell m r hn
  obtain ⟨b, o, sp⟩ := ad
  simp only at hs
  subst hs
  exact ⟨b, o, ha, fun j h => hc j _ (by simp [texts, h])⟩
set_option maxHeartbeats 2000000 in
theorem sameTexts_spec (B C : Option Addr) (n k cB cC : Nat) (xs ys : List ByteArray) (w w0 : World) (S : Asn) (m : Mod w w0 S) (r1 : Reads S B n (texts xs)) (r2 : Reads S C k (texts ys)) (hn : n ≤ 4611686018427387904) (hk : k ≤ 4611686018427387904) :
    Calls Tryd.prog 30 #[.slice B n cB, .slice C k cC] w fun e w' => e = .returned (.bool (decide (xs = ys))) ∧ Mod w' w0 S := by
  have l1 : xs.length = n := by have := reads_len m r1; simpa [texts] using this
  have l2 : ys.length = k := by have := reads_len m r2; simpa [texts] using this
  by_cases hnk : n = k
  · subst hnk
    go_enter Tryd.func30, Tryd.ntmps30
    go_wp2
    go_loopg [5] n (fun gk i wr => ∃ k : Nat, k ≤ n ∧ gk = n - k ∧ i = .int .i64 (k : Int) ∧ Hid (∀ j (h1 : j < xs.length) (h2 : j < ys.length), j < k → xs[j] = ys[j]) ∧ Mod wr w0 S)
    case atStart => exact ⟨0, Nat.zero_le _, rfl, rfl, fun _ _ _ h => absurd h (Nat.not_lt_zero _), m⟩
    case round =>
      obtain ⟨k, hkn, hgk, rfl, Hs, m2⟩ := hrel
      by_cases hlt : k < n
      · obtain ⟨b1, o1, rfl, hc1⟩ := reads_text m2 r1 (by omega)
        obtain ⟨b2, o2, rfl, hc2⟩ := reads_text m2 r2 (by omega)
        have hx := hc1 k (by omega)
        have hy := hc2 k (by omega)
        have hki : (k : Int) < (n : Int) := by omega
        have Hc : ∀ (e : xs[k] = ys[k]), Hid (∀ j (h1 : j < xs.length) (h2 : j < ys.length), j < k + 1 → xs[j] = ys[j]) := fun e j h1 h2 hj => by
          rcases Nat.lt_or_ge j k with h | h
          · exact Hs.out j h1 h2 h
          · have : j = k := by omega
            subst this; exact e
        have Hd : ∀ (e : ¬ xs[k] = ys[k]), xs ≠ ys := fun e h => by subst h; exact e rfl
        have HC := Lib.hid Hc
        have HD := Lib.hid Hd
        clear hc1 hc2 Hc Hd
        generalize xs[k] = x at *
        generalize ys[k] = y at *
        go_wp2
        go_quiet (fail)
        generalize hw : wr.drewN nq = w3 at *
        have m3 : Mod w3 w0 S := by rw [← hw]; exact Mod.drewN (m := m2) nq
        clear hw
        by_cases hxy : x = y
        · subst hxy
          have hq : (!x.toList == x.toList) = false := by simp
          rw [hq]
          go_wp2
          go_roundg (n - (k + 1))
          case measure => omega
          case rel => exact ⟨k + 1, by omega, rfl, by go_num, HC.out trivial, m3⟩
        · have hq : (!x.toList == y.toList) = true := by
            have : x.toList ≠ y.toList := fun e => hxy (toList_inj e)
            simpa using this
          rw [hq]
          have Hne := Lib.hid (HD.out hxy)
          clear HC HD hq hxy
          go_wp2
          go_ret
          exact ⟨by rw [decide_eq_false Hne.out]; rfl, m3⟩
      · have hk2 : k = n := by omega
        have Heq : Hid (xs = ys) := eql_same.2 ⟨by omega, fun j h1 h2 => Hs.out j h1 h2 (by omega)⟩
        clear Hs
        go_wp2
        go_ret
        exact ⟨by rw [decide_eq_true Heq.out]; rfl, m2⟩
  · go_enter Tryd.func30, Tryd.ntmps30
    go_wp2
    go_ret
    have : xs ≠ ys := fun e => hnk (by rw [← l1, ← l2, e])
    exact ⟨by rw [decide_eq_false this]; rfl, m⟩
theorem text_append (a b : ByteArray) : (⟨(a.data.toList ++ b.data.toList).toArray⟩ : ByteArray) = a ++ b := by
  apply toList_inj
  rw [ByteArray.toList_eq, ByteArray.toList_eq, ByteArray.data_append, Array.toList_append]
theorem text_extract (l : List UInt8) (i j : Nat) : ((⟨l.toArray⟩ : ByteArray).extract i j).toList = (l.drop i).take (j - i) := by
  rw [ByteArray.toList_eq, ByteArray.data_extract]
  simp [List.take_drop]
/-! ### How long texts are -/
def sizes : List ByteArray → Nat
  | [] => 0
  | s :: l => s.size + sizes l
theorem sizes_append (a b : List ByteArray) : sizes (a ++ b) = sizes a + sizes b := by
  induction a with
  | nil => simp [sizes]
  | cons x a ih => simp [sizes, ih, Nat.add_assoc]
/-- What the laws' TextsSize tells: all of it, as long as it goes through. -/
def textsSize : Nat → List ByteArray → Nat
  | n, [] => n
  | n, s :: l => if n ≤ 1048576 then textsSize (n + s.size) l else n
theorem textsSize_gt : ∀ (l : List ByteArray) (n : Nat), n ≤ textsSize n l ∧ (textsSize n l ≤ 1048576 → textsSize n l = n + sizes l)
  | [], n => ⟨Nat.le_refl _, fun _ => rfl⟩
  | s :: l, n => by
    unfold textsSize
    obtain ⟨h1, h2⟩ := textsSize_gt l (n + s.size)
    split
    · exact ⟨by omega, fun h => by rw [h2 h]; simp only [sizes]; omega⟩
    · exact ⟨Nat.le_refl _, fun h => by omega⟩
theorem nameOk_eq (s : ByteArray) : nameOk s = (!s.data.toList.isEmpty && decide (s.size ≤ 16) && (Lib.trimS s.data.toList mayBytes).isEmpty) := by
  unfold nameOk
  rw [ByteArray.toList_eq, ByteArray.toList_eq]
theorem reads_blk {F : Asn} {g n : Nat} {cs : Array Value} {e : TypeId} {fr : Nat × Nat} {xs : List Value} [h : Has F g (.cells cs e fr)] (hx : cs.toList = xs) (hn : xs.length = n) : Reads F (some ⟨g, 0, none⟩) n xs :=
  ⟨fun _ _ => hn, fun x hh _ => ⟨_, rfl, rfl, fun j u hu => ⟨cs, e, fr, h.has x hh, by rw [← hx] at hu; simpa using hu⟩⟩⟩
end Go.Proofs.YtmpgnnjhgjfgaaaDoor
