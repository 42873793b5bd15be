/- The numbers' texts in the names of a manifest's journals: definitions and plain lemmas; the conditions are in each theorem.
The library's functions that package manifests calls (strconv.FormatUint, ParseUint; strings.HasPrefix, TrimPrefix; slices.Contains and IndexFunc of texts): contracts over the small separation logic; the conditions are in each theorem.
A manifest in the heap; the walks of clear and first: contracts over the small separation logic; the conditions are in each theorem.
What a disk holds of a manifest, and what begin makes of a disk, in plain lists: definitions and plain lemmas; the conditions are in each theorem. -/
import Derived.Lib.ItoaNum
import Derived.Lib.ParseIntB
import Derived.Test.YtmhlebpchllpbaaGreatDoorNamesG
import Derived.Test.YtmhlebpchllpbaaGreatDoorMfLay
import Derived.Test.YtmhlebpchllpbaaGreatDoorEdAG
import Derived.Sort.Grow
import Derived.Lib.ItoaMem
import Derived.Lib.AppendIntMem
import Derived.Lib.LaidTab
import Derived.Lib.AtoiErrMem
import Derived.Test.YtmhlebpchllpbaaGreatDoorJourG
namespace Go.Sl
open Go
/-- The digits' bytes. -/
theorem digit_byte (n : Nat) (h : n < 10) : (UInt8.ofNat (48 + n)).toNat = 48 + n := by rw [UInt8.toNat_ofNat']; omega
theorem digits_are : ∀ (u : Nat), ∀ b ∈ Lib.decDigits u, 48 ≤ b.toNat ∧ b.toNat ≤ 57 := by
  intro u
  induction u using Nat.strongRecOn with
  | _ u ih =>
    intro b hb
    by_cases h : u < 10
    · rw [Lib.decDigits_one h, List.mem_singleton] at hb
      subst hb
      rw [digit_byte u h]; omega
    · rw [Lib.decDigits, dif_neg h, List.mem_append, List.mem_singleton] at hb
      rcases hb with hb | rfl
      · exact ih (u / 10) (by omega) b hb
      · rw [digit_byte _ (by omega)]; omega
theorem digits_ne (u : Nat) : Lib.decDigits u ≠ [] := by
  intro h
  have := Lib.decDigits_length u
  rw [h] at this
  have := Lib.nDigits_pos u
  simp at *
  omega
theorem parseM_app (M : Nat) (hM : M ≤ 4294967295) : ∀ (l r : List UInt8) (acc v : Nat), Lib.parseUintM M acc l = .ok v → Lib.parseUintM M acc (l ++ r) = Lib.parseUintM M v r
  | [], r, acc, v, h => by simp only [Lib.parseUintM, Lib.NumEnd.ok.injEq] at h; subst h; rfl
  | c :: l, r, acc, v, h => by
    rw [List.cons_append]
    simp only [Lib.parseUintM] at h ⊢
    split at h
    · rename_i hc
      rw [if_pos hc]
      split at h
      · cases h
      · rename_i h1
        rw [if_neg h1]
        split at h
        · cases h
        · rename_i h2
          rw [if_neg h2]
          exact parseM_app M hM l r _ v h
    · cases h
theorem parse_digits (M : Nat) (hM : M ≤ 4294967295) : ∀ (u : Nat), u ≤ M → Lib.parseUintM M 0 (Lib.decDigits u) = .ok u := by
  intro u
  induction u using Nat.strongRecOn with
  | _ u ih =>
    intro hu
    by_cases h : u < 10
    · rw [Lib.decDigits_one h]
      have e := digit_byte u h
      simp only [Lib.parseUintM, e]
      rw [if_pos (by omega), if_neg (by omega), if_neg (by omega)]
      congr 1; omega
    · rw [Lib.decDigits, dif_neg h, parseM_app M hM _ _ _ _ (ih (u / 10) (by omega) (by omega))]
      have e := digit_byte (u % 10) (by omega)
      simp only [Lib.parseUintM, e]
      rw [if_pos (by omega), if_neg (by omega), if_neg (by omega)]
      congr 1; omega
theorem parse32_digits (u : Nat) (hu : u < 4294967296) : Lib.parseUintB 32 (Lib.decDigits u) = .ok u := by
  unfold Lib.parseUintB
  rw [if_neg (digits_ne u)]
  exact parse_digits _ (by decide) u (by show u ≤ 2 ^ 32 - 1; omega)
theorem digits_inj {u v : Nat} (hu : u < 4294967296) (hv : v < 4294967296) (h : Lib.decDigits u = Lib.decDigits v) : u = v := by
  have h1 := parse32_digits u hu
  rw [h, parse32_digits v hv] at h1
  exact (Lib.NumEnd.ok.inj h1).symm
theorem digits_len {u : Nat} (hu : u < 4294967296) : (Lib.decDigits u).length ≤ 10 := by
  rw [Lib.decDigits_length]
  have step : ∀ (k u : Nat), u < 10 ^ (k + 1) → Lib.nDigits u ≤ k + 1 := by
    intro k
    induction k with
    | zero => intro u h; rw [Lib.nDigits_small (by simpa using h)]; omega
    | succ k ih =>
      intro u h
      by_cases h10 : u < 10
      · rw [Lib.nDigits_small h10]; omega
      · rw [Lib.nDigits_big h10]
        have := ih (u / 10) (by rw [Nat.pow_succ] at h; omega)
        omega
  have := step 9 u (by omega)
  omega
end Go.Sl
namespace Go.Proofs.YtmhlebpchllpbaaGreatDoor
open Go Go.Sl
theorem mget_head {α : Type} (p : ByteArray × α) (L : List (ByteArray × α)) (t : ByteArray) : mget (p :: L) t = if p.1 = t then some p.2 else mget L t := by
  unfold mget
  rw [List.find?_cons]
  by_cases h : p.1 = t <;> simp [h]
theorem mget_filter {α : Type} (P : ByteArray → Bool) (L : List (ByteArray × α)) (t : ByteArray) : mget (L.filter fun q => P q.1) t = if P t = true then mget L t else none := by
  induction L with
  | nil => simp [mget]
  | cons p L ih =>
    rw [List.filter_cons]
    by_cases hp : P p.1 = true
    · rw [if_pos hp, mget_head, mget_head, ih]
      by_cases ht : p.1 = t
      · subst ht; rw [if_pos rfl, if_pos rfl, if_pos hp]
      · rw [if_neg ht, if_neg ht]
    · rw [if_neg hp, ih, mget_head]
      by_cases ht : p.1 = t
      · subst ht; rw [if_neg hp, if_neg hp]
      · rw [if_neg ht]
theorem mget_mdel {α : Type} (L : List (ByteArray × α)) (s t : ByteArray) : mget (mdel L s) t = if t = s then none else mget L t := by
  unfold mdel
  rw [mget_filter (fun x => !decide (x = s))]
  by_cases h : t = s <;> simp [h]
theorem mget_maps {α : Type} (L : List (ByteArray × α)) (s t : ByteArray) (v : α) : mget (L.map fun p => if p.1 = s then (p.1, v) else p) t = if t = s then (mget L s).map (fun _ => v) else mget L t := by
  induction L with
  | nil => simp [mget]
  | cons p L ih =>
    rw [List.map_cons, mget_head, ih, mget_head, mget_head]
    by_cases hp : p.1 = s
    · by_cases ht : t = s
      · subst ht; simp [hp]
      · have : ¬ s = t := fun e => ht e.symm
        simp [hp, ht, this]
    · by_cases ht : t = s
      · subst ht; simp [hp]
      · by_cases hpt : p.1 = t
        · simp [ht, hpt]
        · simp [hp, ht, hpt]
theorem mget_mput {α : Type} (L : List (ByteArray × α)) (s t : ByteArray) (v : α) : mget (mput L s v) t = if t = s then some v else mget L t := by
  unfold mput
  split
  · rename_i h
    rw [mget_maps]
    split
    · obtain ⟨q, hq, hqs⟩ := List.any_eq_true.1 h
      have hqs : q.1 = s := by simpa using hqs
      have : ∃ x, mget L s = some x := by
        cases hm : mget L s with
        | some x => exact ⟨x, rfl⟩
        | none => exact absurd hqs (not_mget hm q hq)
      obtain ⟨x, hx⟩ := this
      rw [hx]; rfl
    · rfl
  · rename_i h
    have hn : mget L s = none := mget_none_of fun hm => h (by
      obtain ⟨q, hq, hqs⟩ := List.mem_map.1 hm
      exact List.any_eq_true.2 ⟨q, hq, by simp [hqs]⟩)
    have happ : ∀ (L : List (ByteArray × α)), mget L s = none → mget (L ++ [(s, v)]) t = if t = s then some v else mget L t := by
      intro L
      induction L with
      | nil => intro _; rw [List.nil_append, mget_head]; by_cases ht : t = s <;> simp [ht, mget]; intro e; exact absurd e.symm ht
      | cons p L ih =>
        intro hL
        rw [mget_head] at hL
        by_cases hp : p.1 = s
        · rw [if_pos hp] at hL; cases hL
        · rw [if_neg hp] at hL
          rw [List.cons_append, mget_head, mget_head, ih hL]
          by_cases ht : t = s
          · subst ht; simp [hp]
          · rw [if_neg ht, if_neg ht]
    exact happ L hn
theorem fset_fset : ∀ (T : FileTab) (g : Nat) (f f' : FileSt), fset (fset T g f) g f' = fset T g f'
  | [], _, _, _ => rfl
  | p :: l, g, f, f' => by
    by_cases hp : p.1 = g
    · simp [fset, hp]
    · simp [fset, hp, fset_fset l g f f']
theorem fget_fset (T : FileTab) (g k : Nat) (f f' : FileSt) (h : fget T g = some f) : fget (fset T g f') k = if k = g then some f' else fget T k := by
  by_cases hk : k = g
  · subst hk; rw [if_pos rfl, fget_fset_same T k f f' h]
  · rw [if_neg hk, fget_fset_other T g k f' hk]
/-- "m", "m-new", "m-" and a number -/
def nM : ByteArray := ⟨#[109]⟩
def nNew : ByteArray := ⟨#[109, 45, 110, 101, 119]⟩
def nDash : ByteArray := ⟨#[109, 45]⟩
def mname (n : Nat) : ByteArray := ⟨(109 :: 45 :: Lib.decDigits n).toArray⟩
def ownB (s : ByteArray) : Bool := Lib.hasPrefix s.data.toList [109]
theorem name_ok_of {l : List UInt8} (h1 : l ≠ []) (h2 : l.length ≤ 16) (h3 : ∀ b ∈ l, mayBytes.contains b = true) : nameOk ⟨l.toArray⟩ = true := by
  rw [nameOk_eq]
  have e : Lib.trimS l mayBytes = [] := by
    unfold Lib.trimS
    rw [Lib.trimRightS_take l mayBytes 0 (Nat.zero_le _) (fun j b _ hb => h3 b (List.mem_of_getElem? hb)) (fun b h => absurd h (Nat.lt_irrefl _))]
    rfl
  have hs : (⟨l.toArray⟩ : ByteArray).size ≤ 16 := by show l.toArray.size ≤ 16; rw [List.size_toArray]; exact h2
  show (!l.isEmpty && decide _ && (Lib.trimS l mayBytes).isEmpty) = true
  rw [e]
  simp [h1, hs]
theorem ok_M : nameOk nM = true := name_ok_of (l := [109]) (by decide) (by decide) (by decide)
theorem ok_New : nameOk nNew = true := name_ok_of (l := [109, 45, 110, 101, 119]) (by decide) (by decide) (by decide)
theorem digit_may : ∀ n : Fin 256, 48 ≤ n.val → n.val ≤ 57 → mayBytes.contains (UInt8.ofNat n.val) = true := by decide +kernel
theorem ok_name {n : Nat} (h : n < 4294967296) : nameOk (mname n) = true := by
  have hl := digits_len h
  refine name_ok_of (by simp) (by simp; omega) fun b hb => ?_
  rcases List.mem_cons.1 hb with rfl | hb
  · decide
  rcases List.mem_cons.1 hb with rfl | hb
  · decide
  have hd := digits_are n b hb
  have := digit_may ⟨b.toNat, UInt8.toNat_lt b⟩ hd.1 hd.2
  rwa [UInt8.ofNat_toNat] at this
theorem name_data (n : Nat) : (mname n).data.toList = 109 :: 45 :: Lib.decDigits n := by simp [mname]
theorem name_size (n : Nat) : (mname n).size = 2 + (Lib.decDigits n).length := by show (mname n).data.size = _; rw [← Array.length_toList, name_data]; simp; omega
theorem name_inj {u v : Nat} (hu : u < 4294967296) (hv : v < 4294967296) (h : mname u = mname v) : u = v := by
  have h2 := congrArg (fun b : ByteArray => b.data.toList) h
  simp only [name_data] at h2
  injection h2 with _ h2
  injection h2 with _ h2
  exact digits_inj hu hv h2
theorem name_not_M (n : Nat) : mname n ≠ nM := by
  intro h
  have h2 := congrArg (fun b : ByteArray => b.data.toList) h
  simp only [name_data, nM] at h2
  injection h2 with _ h2
  cases h2
theorem name_not_New (n : Nat) : mname n ≠ nNew := by
  intro h
  have h2 := congrArg (fun b : ByteArray => b.data.toList) h
  simp only [name_data, nNew] at h2
  injection h2 with _ h2
  injection h2 with _ h2
  have := digits_are n 110 (by rw [h2]; simp)
  exact absurd this.2 (by decide)
theorem M_not_New : nM ≠ nNew := by decide
theorem own_M : ownB nM = true := by decide
theorem own_New : ownB nNew = true := by decide
theorem own_name (n : Nat) : ownB (mname n) = true := by unfold ownB; rw [name_data]; rfl
theorem name_small {n : Nat} (h : n < 4294967296) : (mname n).size ≤ 12 := by rw [name_size]; have := digits_len h; omega
end Go.Proofs.YtmhlebpchllpbaaGreatDoor
namespace Go.Proofs.YtmhlebpchllpbaaGreatDoor
open Go.RowKit Go.Sl Go.Sort
theorem grown_mod {w w0 : World} {S : Asn} (m : Mod w w0 S) (os : Array Obj) : Mod (grow w os) w0 S :=
  Mod.below (m := m) ⟨rfl, rfl, rfl, by simp [grow], fun k hk => by simp [grow, Array.getElem?_append_left hk]⟩
attribute [local go_sem] cell_of cellAt_of frozen_of zero_names
/-- The table of the powers of ten lies in the heap. -/
structure TabIn (S : Asn) : Prop where
  has : ∃ g, Tryz.prog.globalNamed "internal/strconv.uint64pow10" = some g ∧ ∀ h, S.says h → ∃ e f, h g = some (.cells (Lib.pow10Tab.map fun z => Value.int .u64 z).toArray e f)
theorem TabIn.lift {S' S : Asn} (s : Sub S' S) (t : TabIn S) : TabIn S' := by
  obtain ⟨g, hg, h⟩ := t.has
  refine ⟨g, hg, fun x hx => ?_⟩
  obtain ⟨a, b, _, hj, ha, _⟩ := s.sub x ⟨x, Hp.none, fun _ => .inr rfl, by funext k; simp [Hp.join, Hp.none], hx, trivial⟩
  obtain ⟨e, f, hh⟩ := h a ha
  exact ⟨e, f, by rw [hj]; simp [Hp.join, hh]⟩
theorem TabIn.is {S : Asn} {w w0 : World} (t : TabIn S) (m : Mod w w0 S) : Lib.TabIs Tryz.prog w "internal/strconv.uint64pow10" .u64 Lib.pow10Tab := by
  obtain ⟨g, hg, h⟩ := t.has
  obtain ⟨a, b, _, h2, h3, _⟩ := m.says
  obtain ⟨e, f, hx⟩ := h a h3
  have hh : hp w g = some (.cells (Lib.pow10Tab.map fun z => Value.int .u64 z).toArray e f) := by rw [h2]; simp [Hp.join, hx]
  have hh : w.heap[g]? = some (.cells (Lib.pow10Tab.map fun z => Value.int .u64 z).toArray e f) := hh
  unfold Lib.TabIs World.var?
  rw [hg]
  simp only [Option.bind_some, hh]
theorem hasPrefix_spec (s p : ByteArray) (w w0 : World) (S : Asn) (m : Mod w w0 S) : Calls Tryz.prog 16 #[.string s, .string p] w fun e w' => e = .returned (.bool (Lib.hasPrefix s.data.toList p.data.toList)) ∧ Mod w' w0 S :=
  (Any.strings_HasPrefix Tryz.mf99 s p w).mono fun e w' ⟨h1, h2⟩ => ⟨h1, by rw [h2]; exact m⟩
theorem trimPrefix_spec (s p : ByteArray) (w w0 : World) (S : Asn) (m : Mod w w0 S) : Calls Tryz.prog 22 #[.string s, .string p] w fun e w' => e = .returned (.string ⟨(Lib.trimPrefix s.data.toList p.data.toList).toArray⟩) ∧ Mod w' w0 S :=
  (Any.strings_TrimPrefix Tryz.mf101 s p w).mono fun e w' ⟨h1, h2⟩ => ⟨h1, by rw [h2]; exact m⟩
theorem bytesWorld_mod {w w0 : World} {S : Asn} (m : Mod w w0 S) (e : TypeId) (s : ByteArray) : Mod (Lib.bytesWorld w e s) w0 S := Mod.below (m := m) (Lib.bytesWorld_below _ _ _)
theorem parseUint_spec (s : ByteArray) (n : Nat) (hs : s.size ≤ 1000000) (h : Lib.parseUintB 32 s.data.toList = .ok n) (w w0 : World) (S : Asn) (m : Mod w w0 S) :
    Calls Tryz.prog 21 #[.string s, .int .i64 10, .int .i64 32] w fun e w' => e = .returned (.tuple #[.int .u64 (n : Int), .nilIface]) ∧ Mod w' w0 S :=
  (Any.strconv_ParseUint_10_at32_ok Tryz.mf14 s (by omega) n h w).mono fun e w' ⟨h1, h2⟩ => ⟨h1, by rcases h2 with h2 | h2 <;> rw [h2]; exact m; exact bytesWorld_mod m _ _⟩
set_option maxHeartbeats 4000000 in
set_option maxRecDepth 100000 in
theorem ifmt_spec (u : Nat) (hu64 : u < 18446744073709551616) (w w0 : World) (S : Asn) (m : Mod w w0 S) (t : TabIn S) :
    Calls Tryz.prog 58 #[.int .u64 (u : Int), .int .i64 10] w fun e w' => e = .returned (.string ⟨(Lib.decDigits u).toArray⟩) ∧ Mod w' w0 S := by
  have htab := t.is m
  by_cases hu : u < 100
  · have hi : (u : Int) < 100 := by omega
    go_enter Tryz.func58, Tryz.ntmps58
    go_wp2_with (go_at_call 98; refine (Any.internal_strconv_small Tryz.mf283 u hu _).mono ?_; rintro e w' ⟨rfl, rfl⟩)
    go_ret
    exact ⟨rfl, m⟩
  · have hu1 : 1 ≤ u := by omega
    have hnd20 : Lib.nDigits u ≤ 20 := by have := Lib.numDigits_eq u hu1 hu64; split at this <;> omega
    have hal : Tryz.prog.arrayLen 147 = 24 := by kernel_rfl
    have hsl : ∀ W, (Instr.sliceAt 147 (.pointer (some ⟨w.heap.size, 0, none⟩)) none (some (.int .i64 (Lib.nDigits u : Int))) none).run Tryz.prog W = .ok (.slice (some ⟨w.heap.size, 0, none⟩) (Lib.nDigits u) 24) W := fun W => by
      rw [run_sliceAt_array_h W 147 ⟨w.heap.size, 0, none⟩ (by kernel_rfl) .i64 (Lib.nDigits u : Int) (by omega) (by rw [hal]; omega)]
      go_simp
    have hH0 := Lib.holds_zero0 w 147 (Lib.nDigits u) (by omega)
    have hfmt := Any.internal_strconv_formatBase10 Tryz.mf285 w.heap.size 0 24 u (Array.replicate (Lib.nDigits u) 0) (w.alloc (.cells Lib.zeros24 147)) hH0 (by rw [Array.size_replicate]; exact Lib.lt_pow_nDigits u) hu64 (by rw [Array.size_replicate]; omega)
    rw [Array.size_replicate] at hfmt
    have HH0 := Lib.hid hH0
    have iu : (100 : Int) ≤ (u : Int) := by omega
    have HT := Lib.hid htab
    clear hH0 hal htab
    go_enter Tryz.func58, Tryz.ntmps58
    go_wp2_with (first
      | (go_at_call 99; refine (Any.internal_strconv_numDigits Tryz.mf284 u hu1 hu64 _ (Lib.tabIs_alloc HT.out _)).mono ?_; rintro e w' ⟨rfl, rfl⟩))
    refine hfmt.mono ?_
    rintro e w' ⟨rfl, k, v', dk, rfl, hF⟩
    have hcv : (convert 63 9 (.slice (some ⟨w.heap.size, 0, none⟩) (Lib.nDigits u) 24)).run Tryz.prog ((putRow (fun (b : UInt8) => Value.int .u8 (b.toNat : Int)) (w.alloc (.cells Lib.zeros24 147)) w.heap.size 0 dk).drewN k) = .ok (.string ⟨(Lib.decDigits u).toArray⟩) ((putRow (fun (b : UInt8) => Value.int .u8 (b.toNat : Int)) (w.alloc (.cells Lib.zeros24 147)) w.heap.size 0 dk).drewN k) := by
      have h := run_convert_bytes_back (P := Tryz.prog) ((putRow (fun (b : UInt8) => Value.int .u8 (b.toNat : Int)) (w.alloc (.cells Lib.zeros24 147)) w.heap.size 0 dk).drewN k) 63 9 5 ⟨w.heap.size, 0, none⟩ 24 (Lib.decDigits u) Tryz.underlying63 Tryz.underlying5 Tryz.underlying9 (fun j hj => by
        rw [Lib.row_is_numeral hF j hj, Lib.add_plain, World.cell?_drewN]
        exact cell?_putRow (fun (b : UInt8) => Value.int .u8 (b.toNat : Int)) _ w.heap.size 0 _ dk HH0.out (by rw [hF.size, Array.size_replicate]) j (by rw [hF.size]; rw [Lib.decDigits_length] at hj; exact hj))
      rw [Lib.decDigits_length] at h
      exact h
    obtain ⟨os, eo⟩ := Lib.fin_at w (.cells Lib.zeros24 147) dk k 0
    have mE : Mod ((putRow (fun (b : UInt8) => Value.int .u8 (b.toNat : Int)) (w.alloc (.cells Lib.zeros24 147)) w.heap.size 0 dk).drewN k) w0 S := by rw [eo]; exact grown_mod inferInstance os
    have HF := Lib.hid hF
    clear hF hfmt eo
    generalize (putRow (fun (b : UInt8) => Value.int .u8 (b.toNat : Int)) (w.alloc (.cells Lib.zeros24 147)) w.heap.size 0 dk).drewN k = W2 at *
    go_wp2
    go_ret
    exact ⟨rfl, mE⟩
theorem fmtUint_spec (u : Nat) (hu64 : u < 18446744073709551616) (w w0 : World) (S : Asn) (m : Mod w w0 S) (t : TabIn S) :
    Calls Tryz.prog 23 #[.int .u64 (u : Int), .int .i64 10] w fun e w' => e = .returned (.string ⟨(Lib.decDigits u).toArray⟩) ∧ Mod w' w0 S := by
  have HI := Lib.hid (ifmt_spec u hu64 w w0 S m t)
  clear t
  go_enter Tryz.func23, Tryz.ntmps23
  go_wp2_with (go_at_call 58; refine HI.out.mono ?_; rintro e w1 ⟨rfl, m1⟩)
  go_ret
  exact ⟨rfl, m1⟩
theorem mContains_spec (B : Option Addr) (n c : Nat) (zs : List ByteArray) (x : ByteArray) (w w0 : World) (S : Asn) (m : Mod w w0 S) (r : Reads S B n (zs.map Value.string)) (hn : n ≤ 1000000) :
    Calls Tryz.prog 24 #[.slice B n c, .string x] w fun e w' => e = .returned (.bool (Lib.containsS zs x)) ∧ Mod w' w0 S := by
  have hlen := reads_len m r
  rw [List.length_map] at hlen
  by_cases h0 : n = 0
  · subst h0
    have hz : zs = [] := List.eq_nil_of_length_eq_zero hlen
    subst hz
    exact (Any.slices_Contains_string_empty Tryz.mf110 B c x w).mono fun e w' ⟨h1, h2⟩ => ⟨by rw [h1]; rfl, by rw [h2]; exact m⟩
  · obtain ⟨⟨b, o, sp⟩, rfl, hsp, hc⟩ := reads_cell m r (by omega)
    simp only at hsp hc
    subst hsp
    refine (Any.slices_Contains_string Tryz.mf110 b o n c zs x w (by omega) (by omega) fun j hj => ?_).mono fun e w' ⟨h1, h2⟩ => ⟨?_, by rw [h2]; exact m⟩
    · have := hc j (.string zs[j]) (by simp [hj])
      rw [this]
      congr 2
      rw [List.getD_eq_getElem?_getD, List.getElem?_eq_getElem hj]; rfl
    · rw [h1, List.take_of_length_le (by omega)]
end Go.Proofs.YtmhlebpchllpbaaGreatDoor
namespace Go.Proofs.YtmhlebpchllpbaaGreatDoor
open Go.RowKit Go.Sl
attribute [local go_sem] cell_of cellAt_of frozen_of zero_names
/-- clear: the own names but the one that holds, and "m". -/
def keepB (holds s : ByteArray) : Bool := !ownB s || decide (s = holds) || (decide (s = nM) && !decide (holds = ⟨#[]⟩))
def clearD (D : DiskSt) (holds : ByteArray) : DiskSt := { D with now := D.now.filter (fun q => keepB holds q.1), sure := D.now.filter (fun q => keepB holds q.1) }
/-- A manifest: its disk, its journal, the journal's number, how many records, the files' slice, and the last edit's numbers. -/
def mfA (mp p : Nat) (j : Value) (num many : Nat) (fs : Value) (k : Nat × Nat × Nat) : Asn :=
  blk mp (.cells #[ptr p, j, .int .u32 (num : Int), .int .i64 (many : Int), fs, .slice none 0 0, .slice none 0 0, .int .u32 (k.1 : Int), .int .u32 (k.2.1 : Int), .int .u64 (k.2.2 : Int), .bool true] 59 (0, 0))
theorem okOf {w w0 : World} {S F : Asn} {p : Nat} {D : DiskSt} (m : Mod w w0 S) (t : Take S (diskA p) D F) : DiskOk D := by obtain ⟨rn, rs, hok, _⟩ := disk_open m t; exact hok
theorem mdel_not {l : Dir} {s : ByteArray} (h : mget l s = none) : mdel l s = l := List.filter_eq_self.2 fun q hq => by simp [not_mget h q hq]
/-- Remove: the name is gone, whether it was there or not. -/
theorem gone_spec (p : Nat) (D : DiskSt) (name : ByteArray) (w w0 : World) (F : Asn) (m : Mod w w0 (diskA p D * F)) (hn : nameOk name = true) :
    Calls Tryz.prog 45 #[ptr p, .string name] w fun e w' => ∃ r : Int, e = .returned (.int .i64 r) ∧ Mod w' w0 (diskA p { D with now := mdel D.now name } * F) := by
  have hs : name.size ≤ 9223372036854775807 := by have := named_size hn; omega
  cases hg : mget D.now name with
  | none =>
    have e : ({ D with now := mdel D.now name } : DiskSt) = D := by rw [mdel_not hg]
    rw [e]
    exact (remove_none p D name w w0 _ F m ⟨rfl⟩ hs hn hg).mono fun e w' ⟨h1, h2⟩ => ⟨7, h1, h2⟩
  | some g => exact (remove_ok p D name w w0 _ F m ⟨rfl⟩ hs g hn hg).mono fun e w' ⟨h1, h2⟩ => ⟨0, h1, h2⟩
/-- The disk with the first i names gone through. -/
def clearAt (D : DiskSt) (holds : ByteArray) (i : Nat) : DiskSt := { D with now := D.now.filter fun q => keepB holds q.1 || decide (q.1.data.toList ∉ (listOf D).take i) }
theorem clearAt_zero (D : DiskSt) (holds : ByteArray) : clearAt D holds 0 = D := by
  unfold clearAt
  rw [List.filter_eq_self.2 (fun q _ => by simp)]
theorem data_inj {a b : ByteArray} (h : a.data.toList = b.data.toList) : a = b := by
  apply ByteArray.ext
  exact Array.toList_inj.1 h
theorem mem_take_succ {α : Type} {l : List α} {i : Nat} (hi : i < l.length) (x : α) : x ∈ l.take (i + 1) ↔ x ∈ l.take i ∨ x = l[i] := by
  rw [List.take_succ_eq_append_getElem hi, List.mem_append, List.mem_singleton]
theorem clearAt_keep {D : DiskSt} {holds : ByteArray} {i : Nat} (hi : i < (listOf D).length) (hk : keepB holds ⟨(listOf D)[i].toArray⟩ = true) : clearAt D holds (i + 1) = clearAt D holds i := by
  unfold clearAt
  congr 1
  refine List.filter_congr fun q _ => ?_
  by_cases hq : q.1.data.toList = (listOf D)[i]
  · have : q.1 = ⟨(listOf D)[i].toArray⟩ := data_inj (by rw [hq])
    rw [this, hk]; rfl
  · congr 1
    exact decide_eq_decide.2 (not_congr ((mem_take_succ hi _).trans ⟨fun h => h.resolve_right hq, .inl⟩))
theorem clearAt_drop {D : DiskSt} {holds : ByteArray} {i : Nat} (hi : i < (listOf D).length) (hk : keepB holds ⟨(listOf D)[i].toArray⟩ = false) : clearAt D holds (i + 1) = { clearAt D holds i with now := mdel (clearAt D holds i).now ⟨(listOf D)[i].toArray⟩ } := by
  unfold clearAt mdel
  simp only
  rw [List.filter_filter]
  congr 1
  refine List.filter_congr fun q _ => ?_
  by_cases hq : q.1.data.toList = (listOf D)[i]
  · have h0 : q.1 = ⟨(listOf D)[i].toArray⟩ := data_inj (by rw [hq])
    have h1 : q.1.data.toList ∈ (listOf D).take (i + 1) := (mem_take_succ hi _).2 (.inr hq)
    simp only [h1, not_true_eq_false, decide_false, Bool.or_false]
    rw [h0, hk]; simp
  · have h2 : ¬ q.1 = ⟨(listOf D)[i].toArray⟩ := fun e => hq (by rw [e])
    rw [decide_eq_false h2, Bool.not_false, Bool.true_and]
    congr 1
    exact decide_eq_decide.2 (not_congr ((mem_take_succ hi _).trans ⟨fun h => h.resolve_right hq, .inl⟩))
theorem toList_nM : nM.toList = [109] := by rw [ByteArray.toList_eq]; rfl
theorem toList_no : (⟨#[]⟩ : ByteArray).toList = [] := by rw [ByteArray.toList_eq]
theorem mem_listOf {D : DiskSt} {l : List UInt8} : l ∈ listOf D ↔ ∃ q ∈ D.now, q.1.data.toList = l := by
  unfold listOf
  rw [(List.mergeSort_perm _ _).mem_iff, List.mem_map]
theorem clearAt_end (D : DiskSt) (holds : ByteArray) : (⟨(clearAt D holds (listOf D).length).size, (clearAt D holds (listOf D).length).now, (clearAt D holds (listOf D).length).now, (clearAt D holds (listOf D).length).files⟩ : DiskSt) = clearD D holds := by
  unfold clearAt clearD
  have e : D.now.filter (fun q => keepB holds q.1 || decide (q.1.data.toList ∉ (listOf D).take (listOf D).length)) = D.now.filter fun q => keepB holds q.1 := by
    refine List.filter_congr fun q hq => ?_
    rw [List.take_length]
    have : q.1.data.toList ∈ listOf D := mem_listOf.2 ⟨q, hq, rfl⟩
    simp [this]
  simp only [e]
theorem enc_texts' (L : List (List UInt8)) : L.map Go.Proofs.encStr = texts (L.map fun l => ⟨l.toArray⟩) := by
  rw [texts, List.map_map]
  apply List.map_congr_left
  intro s _
  simp [Go.Proofs.encStr]
def condB (a b c d : Bool) : Bool := (a && !b) && (!c || d)
theorem keep_cond (holds s : ByteArray) : keepB holds s = !condB (ownB s) (decide (s = holds)) (decide (s = nM)) (decide (holds = ⟨#[]⟩)) := by
  unfold keepB condB
  cases ownB s <;> cases decide (s = holds) <;> cases decide (s = nM) <;> cases decide (holds = ⟨#[]⟩) <;> rfl
set_option maxRecDepth 4000 in
set_option maxHeartbeats 8000000 in
theorem clear_spec (mp p : Nat) (j : Value) (num many : Nat) (fs : Value) (k : Nat × Nat × Nat) (D : DiskSt) (holds : ByteArray) (w w0 : World) (F : Asn) (m : Mod w w0 (diskA p D * (mfA mp p j num many fs k * F))) :
    Calls Tryz.prog 19 #[ptr mp, .string holds] w fun e w' => e = .returned (.tuple #[]) ∧ Mod w' w0 (diskA p (clearD D holds) * (mfA mp p j num many fs k * F)) := by
  have hok := okOf (F := mfA mp p j num many fs k * F) m ⟨rfl⟩
  unfold mfA at m ⊢
  obtain ⟨n, hn⟩ : ∃ n, (listOf D).length = n := ⟨_, rfl⟩
  have HL := Lib.hid (fun (u : World) (F : Asn) (mu : Mod u w0 (diskA p D * F)) => list_spec p D u w0 _ F mu ⟨rfl⟩)
  rw [hn, enc_texts'] at HL
  have hlen64 : n ≤ 64 := by rw [← hn, length_listOf]; exact hok.many
  have Hnm : Hid (∀ s ∈ (listOf D).map fun l => (⟨l.toArray⟩ : ByteArray), nameOk s = true) := fun s hs => by
    obtain ⟨l, hl, rfl⟩ := List.mem_map.1 hs
    obtain ⟨q, hq, rfl⟩ := mem_listOf.1 hl
    exact hok.named q hq
  have Hn := Lib.hid hn
  clear hok hn
  go_enter Tryz.func19, Tryz.ntmps19
  go_wp2_with (go_at_call 14; refine (HL.out _ _ m).mono ?_; rintro e w1 ⟨B, c, rfl, m1⟩)
  clear m HL
  go_loopg [12] n (fun gk iv wr => ∃ i : Nat, i ≤ n ∧ gk = n - i ∧ iv = .int .i64 (i : Int) ∧ Mod wr w0 (diskA p (clearAt D holds i) * (rowA 9 1 (.slice B n c) n (texts ((listOf D).map fun l => (⟨l.toArray⟩ : ByteArray))) * (blk mp (.cells #[ptr p, j, .int .u32 (num : Int), .int .i64 (many : Int), fs, .slice none 0 0, .slice none 0 0, .int .u32 (k.1 : Int), .int .u32 (k.2.1 : Int), .int .u64 (k.2.2 : Int), .bool true] 59 (0, 0)) * F))))
  case atStart => exact ⟨0, Nat.zero_le _, rfl, rfl, by rw [clearAt_zero]; exact Mod.to (m := m1) (sep_left_comm _ _ _)⟩
  case round =>
    obtain ⟨i, hi, hgk, rfl, m2⟩ := hrel
    by_cases hlt : i < n
    · have hii : (i : Int) < (n : Int) := by omega
      have hil : i < (listOf D).length := by rw [Hn.out]; exact hlt
      obtain ⟨b, o, rfl, hcell⟩ := reads_text m2 (inferInstance : Reads _ B n (texts ((listOf D).map fun l => (⟨l.toArray⟩ : ByteArray)))) (by omega)
      have hc := hcell i (by simpa using hil)
      rw [List.getElem_map] at hc
      have hnok := Hnm.out ⟨(listOf D)[i].toArray⟩ (List.mem_map.2 ⟨_, List.getElem_mem hil, rfl⟩)
      have Hk := Lib.hid (keep_cond holds ⟨(listOf D)[i].toArray⟩)
      have HK1 := Lib.hid (fun hk => clearAt_keep (holds := holds) hil hk)
      have HK2 := Lib.hid (fun hk => clearAt_drop (holds := holds) hil hk)
      clear hcell
      generalize (listOf D)[i] = l at *
      clear hil
      generalize (⟨l.toArray⟩ : ByteArray) = s at *
      have HP := Lib.hid (fun (u : World) (S : Asn) (mu : Mod u w0 S) => hasPrefix_spec s ⟨#[109]⟩ u w0 S mu)
      have ho : Lib.hasPrefix s.data.toList (⟨#[109]⟩ : ByteArray).data.toList = ownB s := rfl
      rw [ho] at HP
      clear ho
      cases ha : ownB s with
      | false =>
        rw [ha] at HP Hk
        go_wp2_with (go_at_call 16; refine (HP.out _ _ m2).mono ?_; rintro e w3 ⟨rfl, m3⟩)
        go_roundg (n - (i + 1))
        case measure => omega
        case rel => exact ⟨i + 1, hlt, rfl, by go_num, by rw [HK1.out (by rw [Hk.out]; rfl)]; exact m3⟩
      | true =>
        rw [ha] at HP Hk
        have HG := Lib.hid (fun (u : World) (F : Asn) (mu : Mod u w0 (diskA p (clearAt D holds i) * F)) => gone_spec p (clearAt D holds i) s u w0 F mu hnok)
        by_cases e1 : s.toList = holds.toList
        · have hkk : keepB holds s = true := by rw [Hk.out, decide_eq_true (toList_inj e1)]; rfl
          go_wp2_with (go_at_call 16; refine (HP.out _ _ m2).mono ?_; rintro e w3 ⟨rfl, m3⟩)
          go_roundg (n - (i + 1))
          case measure => omega
          case rel => exact ⟨i + 1, hlt, rfl, by go_num, by rw [HK1.out hkk]; exact m3⟩
        · have e1' : decide (s = holds) = false := decide_eq_false fun e => e1 (by rw [e])
          rw [e1'] at Hk
          by_cases e2 : s.toList = [109]
          · have e2' : decide (s = nM) = true := decide_eq_true (toList_inj (e2.trans toList_nM.symm))
            rw [e2'] at Hk
            have e3 : ¬ [109] = holds.toList := fun e => e1 (e2.trans e)
            cases h0 : holds.toList.isEmpty with
            | false =>
              have h0' : decide (holds = ⟨#[]⟩) = false := decide_eq_false fun e => by rw [e, toList_no] at h0; cases h0
              have hkk : keepB holds s = true := by rw [Hk.out, h0']; rfl
              clear e1' e2' h0' e1
              go_wp2_with (go_at_call 16; refine (HP.out _ _ m2).mono ?_; rintro e w3 ⟨rfl, m3⟩)
              go_roundg (n - (i + 1))
              case measure => omega
              case rel => exact ⟨i + 1, hlt, rfl, by go_num, by rw [HK1.out hkk]; exact m3⟩
            | true =>
              have h0' : decide (holds = ⟨#[]⟩) = true := decide_eq_true (toList_inj ((List.isEmpty_iff.1 h0).trans toList_no.symm))
              have hkk : keepB holds s = false := by rw [Hk.out, h0']; rfl
              have h0'' : holds.toList = [] := List.isEmpty_iff.1 h0
              clear e1' e2' h0' e1
              go_wp2_with first
                | (go_at_call 16; refine (HP.out _ _ m2).mono ?_; rintro e w3 ⟨rfl, m3⟩)
                | (go_at_call 45; refine (HG.out _ _ m3).mono ?_; rintro e w4 ⟨r, rfl, m4⟩)
              go_roundg (n - (i + 1))
              case measure => omega
              case rel => exact ⟨i + 1, hlt, rfl, by go_num, by rw [HK2.out hkk]; exact m4⟩
          · have e2' : decide (s = nM) = false := decide_eq_false fun e => e2 (by rw [e, toList_nM])
            have hkk : keepB holds s = false := by rw [Hk.out, e2']; rfl
            have b1 : (s.toList == holds.toList) = false := beq_eq_false_iff_ne.2 e1
            have b2 : (s.toList == [109]) = false := beq_eq_false_iff_ne.2 e2
            clear e1' e2'
            go_wp2_with first
              | (go_at_call 16; refine (HP.out _ _ m2).mono ?_; rintro e w3 ⟨rfl, m3⟩)
              | (go_at_call 45; refine (HG.out _ _ m3).mono ?_; rintro e w4 ⟨r, rfl, m4⟩)
            go_roundg (n - (i + 1))
            case measure => omega
            case rel => exact ⟨i + 1, hlt, rfl, by go_num, by rw [HK2.out hkk]; exact m4⟩
    · have hii : ¬ (i : Int) < (n : Int) := by omega
      have he : i = n := by omega
      subst he
      have HN := Lib.hid (fun (u : World) (F : Asn) (mu : Mod u w0 (diskA p (clearAt D holds i) * F)) => names_spec p (clearAt D holds i) u w0 _ F mu ⟨rfl⟩)
      go_wp2_with (go_at_call 46; refine (HN.out _ _ m2).mono ?_; rintro e w4 ⟨rfl, m4⟩)
      go_end0
      refine ⟨rfl, ?_⟩
      rw [← clearAt_end, Hn.out]
      exact Mod.drop (A := rowA 9 1 (.slice B i c) i (texts ((listOf D).map fun l => (⟨l.toArray⟩ : ByteArray)))) (m := Mod.to (m := m4) (by ac_rfl))
end Go.Proofs.YtmhlebpchllpbaaGreatDoor
namespace Go.Proofs.YtmhlebpchllpbaaGreatDoor
open Go Go.Sl
/-- A tighter bound on a record's bytes in a journal. -/
theorem takes_block2 (m : Nat) : ∀ (p n : Nat), n ≤ m → p % 128 = 0 → 10 * takes p n ≤ 11 * n + 70 := by
  induction m with
  | zero =>
    intro p n h hp
    have hn : n = 0 := by omega
    subst hn
    have : gapOf p = 0 := by unfold gapOf; split <;> omega
    rw [takes_step, this]; simp
  | succ m ih =>
    intro p n h hp
    have hg : gapOf p = 0 := by unfold gapOf; split <;> omega
    rw [takes_step, hg]
    simp only [Nat.add_zero, hp, Nat.zero_add, Nat.sub_zero]
    split
    · omega
    · have h1 : min n (128 - 7) = 121 := by omega
      rw [h1]
      have := ih (p + 7 + 121) (n - 121) (by omega) (by omega)
      omega
theorem takes_le2 (p n : Nat) : 10 * takes p n ≤ 11 * n + 210 := by
  have hr := room_pos p
  rw [takes_step]
  have hg := gapOf_le p
  split
  · omega
  · rename_i hne
    have h1 : min n (128 - (p + gapOf p) % 128 - 7) = 128 - (p + gapOf p) % 128 - 7 := by omega
    rw [h1]
    have := takes_block2 (n - (128 - (p + gapOf p) % 128 - 7)) (p + gapOf p + 7 + (128 - (p + gapOf p) % 128 - 7)) (n - (128 - (p + gapOf p) % 128 - 7)) (Nat.le_refl _) (by omega)
    omega
theorem writ_le2 (p : Nat) (f : Bool) (r : List UInt8) : 10 * (writ p f r).length ≤ 11 * r.length + 210 := by rw [takes_of]; exact takes_le2 _ _
theorem journal_le2 : ∀ (l : List (List UInt8)) (a : List UInt8) (c : Nat), (∀ r ∈ l, r.length ≤ c) → 10 * (journal a l).length ≤ 10 * a.length + l.length * (11 * c + 210)
  | [], a, c, _ => by simp [journal]
  | r :: l, a, c, h => by
    rw [journal_cons]
    have h1 := journal_le2 l (a ++ writ a.length true r) c fun q hq => h q (List.mem_cons_of_mem _ hq)
    have h2 := writ_le2 a.length true r
    have h3 := h r (List.mem_cons_self ..)
    rw [List.length_append] at h1
    rw [List.length_cons, Nat.add_mul]
    omega
theorem writ_ge (p : Nat) (f : Bool) (r : List UInt8) : r.length ≤ (writ p f r).length := by
  obtain ⟨n, hn⟩ : ∃ n, r.length = n := ⟨_, rfl⟩
  induction n using Nat.strongRecOn generalizing p f r with
  | _ n ih =>
    rw [writ_len]
    have hf := fits_le p r
    split
    · omega
    · rename_i hne
      have hpos : 0 < r.length := by rcases Nat.eq_zero_or_pos r.length with h | h <;> omega
      have hfp := fits_pos p r hpos
      have := ih (r.length - fits p r) (by omega) (p + gapOf p + 7 + fits p r) false (r.drop (fits p r)) (by rw [List.length_drop])
      rw [List.length_drop] at this
      omega
theorem journal_ge : ∀ (l : List (List UInt8)) (a : List UInt8), a.length + (l.map List.length).sum ≤ (journal a l).length
  | [], a => by simp [journal]
  | r :: l, a => by
    rw [journal_cons]
    have h1 := journal_ge l (a ++ writ a.length true r)
    have h2 := writ_ge a.length true r
    rw [List.length_append] at h1
    rw [List.map_cons, List.sum_cons]
    omega
/-- What a disk holds of a manifest: "m", which names a journal, and the journal, both sure. -/
structure MAt (D : DiskSt) (num : Nat) (rs : List (List UInt8)) : Prop where
  ex : ∃ gm gj, mget D.now nM = some gm ∧ mget D.now (mname num) = some gj ∧ fget D.files gm = some ⟨(mname num).data.toList, (mname num).size⟩ ∧ fget D.files gj = some ⟨journal [] rs, (journal [] rs).length⟩ ∧ mget D.sure nM = some gm ∧ mget D.sure (mname num) = some gj
  own : ∀ q ∈ D.now, ownB q.1 = true → q.1 = nM ∨ q.1 = mname num
  ownS : ∀ q ∈ D.sure, ownB q.1 = true → q.1 = nM ∨ q.1 = mname num
/-- The disk with a new journal, with "m-new" beside it, step by step. -/
def begD (D : DiskSt) (nm : ByteArray) (b : List UInt8) (g1 g2 : Nat) : Nat → DiskSt
  | 0 => { D with now := mput D.now nm g1, files := (g1, ⟨b, 0⟩) :: D.files }
  | 1 => { D with now := mput D.now nm g1, files := (g1, ⟨b, b.length⟩) :: D.files }
  | 2 => { D with now := mput (mput D.now nm g1) nNew g2, files := (g2, ⟨[], 0⟩) :: (g1, ⟨b, b.length⟩) :: D.files }
  | 3 => { D with now := mput (mput D.now nm g1) nNew g2, files := (g2, ⟨nm.data.toList, 0⟩) :: (g1, ⟨b, b.length⟩) :: D.files }
  | 4 => { D with now := mput (mput D.now nm g1) nNew g2, files := (g2, ⟨nm.data.toList, nm.data.toList.length⟩) :: (g1, ⟨b, b.length⟩) :: D.files }
  | 5 => { D with now := mput (mput D.now nm g1) nNew g2, sure := mput (mput D.now nm g1) nNew g2, files := (g2, ⟨nm.data.toList, nm.data.toList.length⟩) :: (g1, ⟨b, b.length⟩) :: D.files }
  | 6 => { D with now := mput (mdel (mput (mput D.now nm g1) nNew g2) nNew) nM g2, sure := mput (mput D.now nm g1) nNew g2, files := (g2, ⟨nm.data.toList, nm.data.toList.length⟩) :: (g1, ⟨b, b.length⟩) :: D.files }
  | _ => { D with now := mput (mdel (mput (mput D.now nm g1) nNew g2) nNew) nM g2, sure := mput (mdel (mput (mput D.now nm g1) nNew g2) nNew) nM g2, files := (g2, ⟨nm.data.toList, nm.data.toList.length⟩) :: (g1, ⟨b, b.length⟩) :: D.files }
/-- A disk beside another one: the same size, and all files of it as they were. -/
structure Over (D D' : DiskSt) : Prop where
  size : D'.size = D.size
  files : ∀ k f, fget D.files k = some f → fget D'.files k = some f
theorem Over.refl (D : DiskSt) : Over D D := ⟨rfl, fun _ _ h => h⟩
theorem Over.trans {D D' D'' : DiskSt} (h : Over D D') (h' : Over D' D'') : Over D D'' := ⟨h'.size.trans h.size, fun k f hf => h'.files k f (h.files k f hf)⟩
theorem fget_over {T : FileTab} {g : Nat} (hg : fget T g = none) (f : FileSt) (k : Nat) (f' : FileSt) (h : fget T k = some f') : fget ((g, f) :: T) k = some f' := by
  simp only [fget]
  rw [if_neg]
  · exact h
  · rintro rfl; rw [hg] at h; cases h
theorem begun_at {D : DiskSt} {num g1 g2 : Nat} {rs : List (List UInt8)} (h1 : fget D.files g1 = none) (h2 : fget ((g1, (⟨journal [] rs, (journal [] rs).length⟩ : FileSt)) :: D.files) g2 = none) :
    MAt (clearD (begD D (mname num) (journal [] rs) g1 g2 7) (mname num)) num rs ∧ Over D (clearD (begD D (mname num) (journal [] rs) g1 g2 7) (mname num)) ∧
      ∀ s, ownB s = false → mget (clearD (begD D (mname num) (journal [] rs) g1 g2 7) (mname num)).now s = mget D.now s := by
  have ne : g2 ≠ g1 := by rintro rfl; simp [fget] at h2
  have hk1 : keepB (mname num) nM = true := by
    unfold keepB
    have : ¬ mname num = ⟨#[]⟩ := fun e => by
      have h := congrArg ByteArray.size e
      rw [name_size] at h
      exact absurd h (by show 2 + _ ≠ 0; omega)
    simp [this]
  have hk2 : keepB (mname num) (mname num) = true := by unfold keepB; simp
  have g2m : mget ((mput (mdel (mput (mput D.now (mname num) g1) nNew g2) nNew) nM g2).filter (fun q => keepB (mname num) q.1)) nM = some g2 := by
    rw [mget_filter, if_pos hk1, mget_mput, if_pos rfl]
  have g1m : mget ((mput (mdel (mput (mput D.now (mname num) g1) nNew g2) nNew) nM g2).filter (fun q => keepB (mname num) q.1)) (mname num) = some g1 := by
    rw [mget_filter, if_pos hk2, mget_mput, if_neg (name_not_M num), mget_mdel, if_neg (name_not_New num), mget_mput, if_neg (name_not_New num), mget_mput, if_pos rfl]
  have own : ∀ q ∈ (mput (mdel (mput (mput D.now (mname num) g1) nNew g2) nNew) nM g2).filter (fun q => keepB (mname num) q.1), ownB q.1 = true → q.1 = nM ∨ q.1 = mname num := by
    intro q hq ho
    have hk := (List.mem_filter.1 hq).2
    unfold keepB at hk
    rw [ho] at hk
    simp only [Bool.not_true, Bool.false_or, Bool.or_eq_true, decide_eq_true_eq, Bool.and_eq_true] at hk
    rcases hk with hk | hk
    · exact .inr hk
    · exact .inl hk.1
  refine ⟨⟨⟨g2, g1, g2m, g1m, ?_, ?_, g2m, g1m⟩, own, own⟩, ⟨rfl, fun k f hf => ?_⟩, fun s hs => ?_⟩
  · show fget ((g2, _) :: _) g2 = _
    simp only [fget, if_pos]
    rw [show (mname num).data.toList.length = (mname num).size from Array.length_toList]
  · show fget ((g2, _) :: (g1, _) :: _) g1 = _
    simp only [fget, if_neg ne, if_pos]
  · exact fget_over h2 _ _ _ (fget_over h1 _ _ _ hf)
  · have hkeep : keepB (mname num) s = true := by unfold keepB; rw [hs]; rfl
    have n1 : s ≠ nM := by rintro rfl; rw [own_M] at hs; cases hs
    have n2 : s ≠ nNew := by rintro rfl; rw [own_New] at hs; cases hs
    have n3 : s ≠ mname num := by rintro rfl; rw [own_name] at hs; cases hs
    show mget (List.filter _ _) s = _
    rw [mget_filter, if_pos hkeep]
    show mget (mput _ nM g2) s = _
    rw [mget_mput, if_neg n1, mget_mdel, if_neg n2, mget_mput, if_neg n2, mget_mput, if_neg n3]
/-- After a begin that came to nothing. -/
theorem failed_at {D D' : DiskSt} {num : Nat} {rs : List (List UInt8)} (h : MAt D num rs) (o : Over D D') (h1 : D'.now = D.now) (h2 : D'.sure = D.now) : MAt D' num rs := by
  obtain ⟨⟨gm, gj, a1, a2, a3, a4, a5, a6⟩, b, _⟩ := h
  exact ⟨⟨gm, gj, by rw [h1]; exact a1, by rw [h1]; exact a2, o.files _ _ a3, o.files _ _ a4, by rw [h2]; exact a1, by rw [h2]; exact a2⟩, by rw [h1]; exact b, by rw [h2]; exact b⟩
theorem total_new {D : DiskSt} {nm : ByteArray} {g : Nat} {f : FileSt} (hok : DiskOk D) (h1 : mget D.now nm = none) (h2 : fget D.files g = none) : total ((g, f) :: D.files) (mput D.now nm g) = total D.files D.now + f.bytes.length := by
  have hn : g ∉ D.now.map (·.2) := by
    intro hm
    obtain ⟨q, hq, hqg⟩ := List.mem_map.1 hm
    have := hok.now q hq
    rw [hqg, h2] at this; cases this
  rw [mput_new h1, total_append, total_cons _ _ _ _ hn]
  simp [total, fget]
end Go.Proofs.YtmhlebpchllpbaaGreatDoor
