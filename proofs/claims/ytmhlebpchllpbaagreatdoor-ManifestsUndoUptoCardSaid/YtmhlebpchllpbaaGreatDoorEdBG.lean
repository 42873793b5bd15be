/- cmp.Compare, cmp.Or, and how Do orders files: contracts; the conditions are in each theorem.
slices.SortFunc on a manifest's files: definitions, plain lemmas, and a contract over the small separation logic; the conditions are in each theorem.
Maps with keys of type uint32 over the small separation logic (printed by gen_umap.py): plain definitions and lemmas; the conditions are in each theorem.
edits.twice: have two files one number: definitions, plain lemmas, and a contract over the small separation logic; the conditions are in each theorem.
edits.Do in plain lists: definitions and plain lemmas; the conditions are in each theorem.
What Do does with a list of files: find a number, delete, clone, clip: contracts over the small separation logic; the conditions are in each theorem.
slices.Delete, slices.Clip on a manifest's files: plain lemmas, and contracts over the small separation logic; the conditions are in each theorem.
slices.Clone on a manifest's files: a contract over the small separation logic; the conditions are in the theorem.
slices.Clip on a manifest's files: a contract; the conditions are in the theorem.
slices.SortFunc on a row of files of one's own, nil too: a contract over the small separation logic; the conditions are in the theorem.
edits.Do: a contract over the small separation logic; the conditions are in the theorem.
The laws' SameFiles at files that are the same: a contract over the small separation logic; the conditions are in the theorem. -/
import Derived.Test.YtmhlebpchllpbaaGreatDoorEdAG
import Derived.Sort.Grow
import Derived.Test.YtmhlebpchllpbaaGreatDoorPartsG
import Derived.Test.YtmhlebpchllpbaaGreatDoorSortL
import Derived.Shelf.SlSortCmp.WholeK
import Derived.Test.YtmhlebpchllpbaaGreatDoorBaseG
import Derived.ArgAppend
import Derived.Lib.SliceRun
import Derived.Shelf.SlSortCmp.NoneTotal
import Derived.Deep.QuietTactic
import Derived.BigQuiet
namespace Go.Sl
open Go
def cmpZ (a b : Int) : Int := if a < b then -1 else if b < a then 1 else 0
/-- By the level, then by the number. -/
def cmpF (f g : FileV) : Int := if cmpZ f.level g.level ≠ 0 then cmpZ f.level g.level else cmpZ f.num g.num
end Go.Sl
namespace Go.Proofs.YtmhlebpchllpbaaGreatDoor
open Go.RowKit Go.Sl Go.Sort
attribute [local go_sem] cell_of frozen_of
set_option maxHeartbeats 1000000 in
theorem cmpInt_spec (a b : Int) (w : World) : Calls Tryz.prog 82 #[.int .i64 a, .int .i64 b] w fun e w' => e = .returned (.int .i64 (cmpZ a b)) ∧ w' = w := by
  have N := fun (a : Int) (u : World) => (show Calls Tryz.prog 117 #[.int .i64 a] u fun e w' => e = .returned (.bool false) ∧ w' = u by
    go_enter Tryz.func117, Tryz.ntmps117
    go_wp2_with fail
    go_ret
    exact ⟨rfl, rfl⟩)
  obtain ⟨z, hz⟩ : ∃ z, cmpZ a b = z := ⟨_, rfl⟩
  rw [hz]
  unfold cmpZ at hz
  by_cases h1 : a < b
  · rw [if_pos h1] at hz
    subst hz
    go_enter Tryz.func82, Tryz.ntmps82
    go_wp2_with (go_at_call 117; refine (N _ _).mono ?_; rintro e w1 ⟨rfl, rfl⟩)
    go_ret
    exact ⟨rfl, rfl⟩
  · rw [if_neg h1] at hz
    by_cases h2 : b < a
    · rw [if_pos h2] at hz
      subst hz
      go_enter Tryz.func82, Tryz.ntmps82
      go_wp2_with (go_at_call 117; refine (N _ _).mono ?_; rintro e w1 ⟨rfl, rfl⟩)
      go_ret
      exact ⟨rfl, rfl⟩
    · rw [if_neg h2] at hz
      subst hz
      go_enter Tryz.func82, Tryz.ntmps82
      go_wp2_with (go_at_call 117; refine (N _ _).mono ?_; rintro e w1 ⟨rfl, rfl⟩)
      go_ret
      exact ⟨rfl, rfl⟩
set_option maxHeartbeats 1000000 in
theorem cmpU32_spec (a b : Int) (w : World) : Calls Tryz.prog 83 #[.int .u32 a, .int .u32 b] w fun e w' => e = .returned (.int .i64 (cmpZ a b)) ∧ w' = w := by
  have N := fun (a : Int) (u : World) => (show Calls Tryz.prog 118 #[.int .u32 a] u fun e w' => e = .returned (.bool false) ∧ w' = u by
    go_enter Tryz.func118, Tryz.ntmps118
    go_wp2_with fail
    go_ret
    exact ⟨rfl, rfl⟩)
  obtain ⟨z, hz⟩ : ∃ z, cmpZ a b = z := ⟨_, rfl⟩
  rw [hz]
  unfold cmpZ at hz
  by_cases h1 : a < b
  · rw [if_pos h1] at hz
    subst hz
    go_enter Tryz.func83, Tryz.ntmps83
    go_wp2_with (go_at_call 118; refine (N _ _).mono ?_; rintro e w1 ⟨rfl, rfl⟩)
    go_ret
    exact ⟨rfl, rfl⟩
  · rw [if_neg h1] at hz
    by_cases h2 : b < a
    · rw [if_pos h2] at hz
      subst hz
      go_enter Tryz.func83, Tryz.ntmps83
      go_wp2_with (go_at_call 118; refine (N _ _).mono ?_; rintro e w1 ⟨rfl, rfl⟩)
      go_ret
      exact ⟨rfl, rfl⟩
    · rw [if_neg h2] at hz
      subst hz
      go_enter Tryz.func83, Tryz.ntmps83
      go_wp2_with (go_at_call 118; refine (N _ _).mono ?_; rintro e w1 ⟨rfl, rfl⟩)
      go_ret
      exact ⟨rfl, rfl⟩
set_option maxHeartbeats 2000000 in
theorem cmpOr_spec (b : Nat) (x y : Int) (w : World) (h0 : w.cell? ⟨b, 0, none⟩ = some (.int .i64 x)) (h1 : w.cell? ⟨b, 1, none⟩ = some (.int .i64 y)) :
    Calls Tryz.prog 81 #[.slice (some ⟨b, 0, none⟩) 2 2] w fun e w' => e = .returned (.int .i64 (if x ≠ 0 then x else y)) ∧ w' = w := by
  obtain ⟨z, hz⟩ : ∃ z, (if x ≠ 0 then x else y) = z := ⟨_, rfl⟩
  rw [hz]
  have Hz := Lib.hid hz
  clear hz
  go_enter Tryz.func81, Tryz.ntmps81
  go_wp2_with fail
  go_loopg [8] 2 (fun gk iv wr => wr = w ∧ ((gk = 2 ∧ iv = .int .i64 0) ∨ (gk = 1 ∧ iv = .int .i64 1 ∧ Hid (x = 0)) ∨ (gk = 0 ∧ iv = .int .i64 2 ∧ Hid (x = 0) ∧ Hid (y = 0))))
  case atStart => exact ⟨rfl, .inl ⟨rfl, rfl⟩⟩
  case round =>
    obtain ⟨rfl, ⟨rfl, rfl⟩ | ⟨rfl, rfl, Hx⟩ | ⟨rfl, rfl, Hx, Hy⟩⟩ := hrel
    · by_cases hx : x = 0
      · subst hx
        go_wp2_with fail
        go_roundg 1
        case measure => omega
        case rel => exact ⟨rfl, .inr (.inl ⟨rfl, rfl, by first | exact Lib.hid trivial | exact Lib.hid rfl⟩)⟩
      · have hzx : Hid (z = x) := by show _ = _; rw [← Hz.out, if_pos hx]
        go_wp2_with fail
        (try rw [Exit.noGoto_ret])
        go_ret
        exact ⟨by rw [hzx.out]; rfl, rfl⟩
    · have hzy : Hid (z = y) := by show _ = _; rw [← Hz.out, if_neg (by rw [Hx.out]; simp)]
      by_cases hy : y = 0
      · subst hy
        go_wp2_with fail
        go_roundg 0
        case measure => omega
        case rel => exact ⟨rfl, .inr (.inr ⟨rfl, rfl, Hx, by first | exact Lib.hid trivial | exact Lib.hid rfl⟩)⟩
      · go_wp2_with fail
        (try rw [Exit.noGoto_ret])
        go_ret
        exact ⟨by rw [hzy.out]; rfl, rfl⟩
    · have hzy : Hid (z = 0) := by show _ = _; rw [← Hz.out, if_neg (by rw [Hx.out]; simp), Hy.out]
      go_wp2_with fail
      go_ret
      exact ⟨by rw [hzy.out]; rfl, rfl⟩
set_option maxHeartbeats 1000000 in
theorem eDo2_spec (f g : FileV) (w : World) :
    Calls Tryz.prog 80 #[.agg #[.int .u32 (f.num : Int), .int .i64 f.level, .string f.least, .string f.most], .agg #[.int .u32 (g.num : Int), .int .i64 g.level, .string g.least, .string g.most]] w fun e w' => e = .returned (.int .i64 (cmpF f g)) ∧ ∃ q os, w' = grow (w.drewN q) os := by
  have H1 := cmpInt_spec f.level g.level
  have H2 := cmpU32_spec f.num g.num
  have H3 : Hid (cmpF f g = if cmpZ f.level g.level ≠ 0 then cmpZ f.level g.level else cmpZ f.num g.num) := rfl
  generalize cmpZ f.level g.level = a at *
  generalize cmpZ f.num g.num = b at *
  generalize cmpF f g = z at *
  have H4 : Hid (∀ (k : Nat) (u : World) (_ : u.cell? ⟨k, 0, none⟩ = some (.int .i64 a)) (_ : u.cell? ⟨k, 1, none⟩ = some (.int .i64 b)), Calls Tryz.prog 81 #[.slice (some ⟨k, 0, none⟩) 2 2] u fun e w' => e = .returned (.int .i64 z) ∧ w' = u) := fun k u h0 h1 => by rw [H3.out]; exact cmpOr_spec k a b u h0 h1
  have mS : Mod ((w.alloc (.cells #[.int .u32 (f.num : Int), .int .i64 f.level, .string f.least, .string f.most] 44)).alloc (.cells #[.int .u32 (g.num : Int), .int .i64 g.level, .string g.least, .string g.most] 44)) w _ := Mod.alloc (m := Mod.alloc (m := Mod.start w) _) _
  have hW : ∀ (q : Nat) (o : Obj), (((w.alloc (.cells #[.int .u32 (f.num : Int), .int .i64 f.level, .string f.least, .string f.most] 44)).alloc (.cells #[.int .u32 (g.num : Int), .int .i64 g.level, .string g.least, .string g.most] 44)).drewN q).alloc o = grow (w.drewN q) #[.cells #[.int .u32 (f.num : Int), .int .i64 f.level, .string f.least, .string f.most] 44, .cells #[.int .u32 (g.num : Int), .int .i64 g.level, .string g.least, .string g.most] 44, o] := fun q o => by
    show (((w.drewN q).alloc _).alloc _).alloc o = _
    rw [alloc_eq_grow, alloc_eq_grow, alloc_eq_grow, grow_grow, grow_grow]
    rfl
  have HW := Lib.hid hW
  clear hW
  obtain ⟨gw, hgw⟩ : ∃ gw, w.heap.size = gw := ⟨_, rfl⟩
  rw [hgw] at mS
  go_enter Tryz.func80, Tryz.ntmps80
  go_wp2_with fail
  have hgu : ((w.alloc (.cells #[.int .u32 (f.num : Int), .int .i64 f.level, .string f.least, .string f.most] 44)).alloc (.cells #[.int .u32 (g.num : Int), .int .i64 g.level, .string g.least, .string g.most] 44)).heap.size = gw + 1 + 1 := by simp [hgw]
  generalize ((w.alloc (.cells #[.int .u32 (f.num : Int), .int .i64 f.level, .string f.least, .string f.most] 44)).alloc (.cells #[.int .u32 (g.num : Int), .int .i64 g.level, .string g.least, .string g.most] 44)) = u at *
  refine wp_region_quiet_tail (C := fun w' => ∃ q : Nat, w' = u.drewN q) 10 (by kernel_rfl) (by kernel_rfl) ⟨1, rfl⟩ ?_
  simp only [List.take_succ_cons, List.take_zero, List.drop_succ_cons, List.drop_zero]
  repeat (go_big_quiet_step (first
    | (go_at_call 82; refine (H1 _).mono ?_; rintro e w1 ⟨rfl, rfl⟩; exact ⟨rfl, _, rfl⟩)
    | (go_at_call 83; refine (H2 _).mono ?_; rintro e w1 ⟨rfl, rfl⟩; exact ⟨rfl, _, rfl⟩)))
  refine wpQuiet_nil ?_
  rintro w3 ⟨q, rfl⟩
  have hn : HpSize (u.drewN q) (gw + 1 + 1) := ⟨hgu⟩
  have m9 : Mod ((u.drewN q).alloc (.cells #[.int .i64 a, .int .i64 b] 3)) w _ := Mod.alloc (hn := hn) _
  have Hgu := Lib.hid hgu
  clear hgu hn
  have k0 : ((u.drewN q).alloc (.cells #[.int .i64 a, .int .i64 b] 3)).cell? ⟨gw + 1 + 1, 0, none⟩ = some (.int .i64 a) := by rw [cell_of]; rfl
  have k1 : ((u.drewN q).alloc (.cells #[.int .i64 a, .int .i64 b] 3)).cell? ⟨gw + 1 + 1, 1, none⟩ = some (.int .i64 b) := by rw [cell_of]; rfl
  have K := Lib.hid (H4.out _ _ k0 k1)
  clear k0 k1
  go_wp2_with fail
  have K := K.out
  rw [← Hgu.out] at K
  refine K.mono ?_
  rintro e w1 ⟨rfl, rfl⟩
  go_wp2_with fail
  go_ret
  exact ⟨rfl, q, _, HW.out q _⟩
end Go.Proofs.YtmhlebpchllpbaaGreatDoor
namespace Go.Sl
open Go Go.Sort Go.Lib Go.Shelf Go.Proofs Go.RowKit
instance : Inhabited FileV := ⟨⟨0, 0, ByteArray.empty, ByteArray.empty⟩⟩
theorem ltF (x y : FileV) : ltOf cmpF x y = decide (x.level < y.level ∨ x.level = y.level ∧ x.num < y.num) := by
  show decide (cmpF x y < 0) = _
  congr 1
  apply propext
  unfold cmpF cmpZ
  by_cases h1 : x.level < y.level
  · simp [h1]
  · by_cases h2 : y.level < x.level
    · simp [h1, h2]; omega
    · have h3 : x.level = y.level := by omega
      by_cases h4 : x.num < y.num
      · simp [h3, h4]
      · by_cases h5 : y.num < x.num <;> simp [h3, h4, h5]
theorem swoF : SWO (ltOf cmpF) where
  irrefl x := by rw [ltF]; simp
  trans x y z h1 h2 := by rw [ltF] at *; simp at *; omega
  ntrans x y z h1 h2 := by rw [ltF] at *; simp at *; omega
theorem grow_mod {w w0 : World} {S : Asn} (m : Mod w w0 S) (os : Array Obj) : Mod (grow w os) w0 S :=
  Mod.below (m := m) ⟨rfl, rfl, rfl, by simp [grow], fun k hk => by simp [grow, Array.getElem?_append_left hk]⟩
end Go.Sl
namespace Go.Proofs.YtmhlebpchllpbaaGreatDoor
open Go.RowKit Go.Sl Go.Sort Go.Shelf Go.Lib
theorem flatK_files (l : List FileV) : (flatK FileV.cells 4 l.toArray).toList = l.flatMap FileV.cells := by
  have hlen : (l.flatMap FileV.cells).length = l.length * 4 := by
    induction l with
    | nil => rfl
    | cons x l ih => rw [List.flatMap_cons, List.length_append, ih]; simp [FileV.cells]; omega
  apply List.ext_getElem?
  intro t
  by_cases ht : t < l.length * 4
  · have h4 : t / 4 < l.length := by omega
    have e1 := get_flatK FileV.cells 4 l.toArray t (by simpa using ht)
    have hs : t < (flatK FileV.cells 4 l.toArray).size := by simpa using ht
    rw [getElem!_pos _ t hs] at e1
    rw [Array.getElem?_toList, Array.getElem?_eq_getElem hs, e1]
    have e2 : l.toArray[t / 4]! = l[t / 4] := by rw [getElem!_pos _ _ (by simpa using h4)]; simp
    rw [e2]
    have hc : t % 4 < l[t / 4].cells.length := by show _ < 4; omega
    rw [getElem!_pos l[t / 4].cells (t % 4) hc]
    have := file_cell l (t / 4) (t % 4) _ h4 (List.getElem?_eq_getElem hc)
    rw [show t / 4 * 4 + t % 4 = t by omega] at this
    exact this.symm
  · rw [List.getElem?_eq_none (by simp; omega), List.getElem?_eq_none (by omega)]
/-- Sorted by the level, then by the number. -/
def sortedF (l : List FileV) : Prop := l.Pairwise fun a b => ltOf cmpF b a = false
theorem putRow_mod {w w0 : World} {g : Nat} {cs : Array Value} {ty : TypeId} {F : Asn} (m : Mod w w0 (blk g (.cells cs ty (0, 0)) * F)) (d : Array Value) : Mod (putRow id w g 0 d) w0 (blk g (.cells (putCells id 0 d cs) ty (0, 0)) * F) := by
  have hh : w.heap[g]? = some (.cells cs ty (0, 0)) := Mod.heap (m := m)
  have hT : Take (blk g (.cells cs ty (0, 0)) * F) (blk g) (.cells cs ty (0, 0)) F := ⟨rfl⟩
  refine Mod.turn (w := w) (m := m) (t := hT) (g := g) (u := Obj.cells cs ty (0, 0)) (pred := blk g) rfl rfl rfl (fun k hk => ?_) (fun h hh => by rw [hh]; exact ⟨fun k hk => by simp [Hp.one, hk], by simp [Hp.one]⟩) (fun h _ _ => ?_)
  · simp [putRow, Sort.mapBlock, Array.getElem?_modify, Ne.symm hk]
  · show _ = _
    funext k
    by_cases hk : k = g
    · subst hk; simp [Hp.one, putRow, Sort.mapBlock, Array.getElem?_modify, hh, onCells]
    · simp [Hp.one, hk]
theorem putCells_take (d cs : Array Value) (h : d.size ≤ cs.size) : (putCells id 0 d cs).toList.take d.size = d.toList ∧ (putCells id 0 d cs).size = cs.size := by
  refine ⟨?_, by simp [putCells]⟩
  apply List.ext_getElem?
  intro t
  by_cases ht : t < d.size
  · rw [List.getElem?_take_of_lt ht]
    have h2 : t < cs.size := by omega
    simp [putCells, ht, h2]
  · rw [List.getElem?_eq_none (by simp; omega), List.getElem?_eq_none (by simp; omega)]
set_option maxRecDepth 100000 in
theorem agg_File (w : World) : (isAgg 44).run Tryz.prog w = .ok true w := by kernel_rfl
set_option maxRecDepth 100000 in
theorem sz_File (w : World) : (Go.sizeOf 44).run Tryz.prog w = .ok 4 w := by kernel_rfl
theorem cmpLaysF (g off size : Nat) (w : World) : CmpLays Tryz.prog 80 #[] FileV.cells 4 cmpF g off size w := fun _ _ _ _ x y => eDo2_spec x y _
set_option maxHeartbeats 2000000 in
theorem sortF_some (g c : Nat) (l : List FileV) (cs : Array Value) (hl : l.length * 4 ≤ cs.size) (hcs : cs.toList.take (l.length * 4) = l.flatMap FileV.cells) (hn : l.length ≤ 1000000000) (w w0 : World) (F : Asn) (m : Mod w w0 (blk g (.cells cs 44 (0, 0)) * F)) :
    Calls Tryz.prog 79 #[.slice (some ⟨g, 0, none⟩) l.length c, .func (.func 80) #[] #[]] w fun e w' => e = .returned (.tuple #[]) ∧ ∃ (l' : List FileV) (cs' : Array Value), l'.Perm l ∧ sortedF l' ∧ cs'.size = cs.size ∧ cs'.toList.take (l.length * 4) = l'.flatMap FileV.cells ∧ Mod w' w0 (blk g (.cells cs' 44 (0, 0)) * F) := by
  have eg : ∀ args w, (callFunc 80 args).run Tryz.prog w = .ok (.enter 80 args) w := enters_of Tryz.func80 (by kernel_rfl) rfl
  have hh : w.heap[g]? = some (.cells cs 44 (0, 0)) := Mod.heap (m := m)
  have hH : HoldsK FileV.cells 4 w g 0 l.toArray := by
    intro j hj
    have hj2 : j < l.length * 4 := by simpa using hj
    have e1 : cs[j]? = some (flatK FileV.cells 4 l.toArray)[j]! := by
      have a1 := congrArg (fun z => z[j]?) hcs
      simp only [List.getElem?_take_of_lt hj2, Array.getElem?_toList] at a1
      rw [a1, ← flatK_files, Array.getElem?_toList, Array.getElem?_eq_getElem hj, getElem!_pos _ j hj]
    refine ⟨?_, frozen_of (w := w) (cs := cs) (t := 44)⟩
    rw [Nat.zero_add, cell_of (w := w) (cs := cs) (t := 44), e1]; rfl
  have hcon := AnyQ.slices_SortFunc Tryz.sortF 4 agg_File sz_File FileV.cells (fun _ => rfl) (fun x v hv => by simp [FileV.cells] at hv; rcases hv with rfl | rfl | rfl | rfl <;> rfl) cmpF swoF 80 #[] g 0 c l.toArray w eg (cmpLaysF g 0 _ w) hH (Array.getElem?_eq_some_iff.1 hh).1 (by simp; omega)
  simp only [List.size_toArray] at hcon
  refine Calls.mono hcon ?_
  rintro e w' ⟨rfl, d', n, os, ⟨hp1, _, hp3⟩, hs, rfl⟩
  simp only [List.size_toArray] at hp1
  have hsz : (flatK FileV.cells 4 d').size = l.length * 4 := by simp [hp1]
  obtain ⟨k1, k2⟩ := putCells_take (flatK FileV.cells 4 d') cs (by omega)
  refine ⟨rfl, d'.toList, putCells id 0 (flatK FileV.cells 4 d') cs, ?_, ?_, k2, ?_, ?_⟩
  · have : d'.extract 0 l.length = d' := by rw [← hp1]; simp
    rw [this] at hp3
    simpa using hp3
  · unfold sortedF
    rw [List.pairwise_iff_getElem]
    intro i j hi hj hij
    have := hs i j (Nat.zero_le _) hij (by simpa [hp1] using hj)
    rw [getElem!_pos d' j (by simpa using hj), getElem!_pos d' i (by simpa using hi)] at this
    simpa using this
  · rw [hsz] at k1
    rw [k1]
    have := flatK_files d'.toList
    simpa using this
  · exact grow_mod (putRow_mod (w := Sort.ahead w n) ⟨m.os, m.tape, m.output, m.says⟩ _) os
end Go.Proofs.YtmhlebpchllpbaaGreatDoor
namespace Go.Sl.U32
open Go Go.Sl
abbrev Pairs := List (Nat × Value)
structure MapOk (es : Array MapEntry) (clock : Nat) (L : Pairs) : Prop where
  keys : es.toList.map (fun e => (e.key, e.val)) = L.map (fun p => (Value.int .u32 (p.1 : Int), p.2))
  born : es.toList.Pairwise (fun a b => a.born < b.born)
  lt : ∀ e ∈ es.toList, e.born < clock
  nodup : (L.map (·.1)).Nodup
/-- Block r is a map with just these entries, in the order in which they came. -/
def smap (r : Nat) (L : Pairs) : Asn := ⟨fun h => ∃ es clock, MapOk es clock L ∧ h = Hp.one r (.map es clock)⟩
def mget {α : Type} (L : List (Nat × α)) (s : Nat) : Option α := (L.find? (fun p => decide (p.1 = s))).map (·.2)
def mput {α : Type} (L : List (Nat × α)) (s : Nat) (v : α) : List (Nat × α) :=
  if L.any (fun p => decide (p.1 = s)) then L.map (fun p => if p.1 = s then (p.1, v) else p) else L ++ [(s, v)]
def mdel {α : Type} (L : List (Nat × α)) (s : Nat) : List (Nat × α) := L.filter (fun p => !decide (p.1 = s))
class HasMap (S : Asn) (r : Nat) (L : outParam Pairs) : Prop where
  has : ∀ h, S.says h → ∃ es clock, MapOk es clock L ∧ h r = some (.map es clock)
instance HasMap.smap (r : Nat) (L : Pairs) : HasMap (smap r L) r L := ⟨fun h ⟨es, c, hm, hh⟩ => ⟨es, c, hm, by rw [hh]; simp [Hp.one]⟩⟩
instance HasMap.left (A B : Asn) (r : Nat) (L : Pairs) [ha : HasMap A r L] : HasMap (A * B) r L :=
  ⟨by
    rintro h ⟨a, b, _, rfl, h1, _⟩
    obtain ⟨es, c, hm, hh⟩ := ha.has a h1
    exact ⟨es, c, hm, by simp [Hp.join, hh]⟩⟩
instance HasMap.right (A B : Asn) (r : Nat) (L : Pairs) [hb : HasMap B r L] : HasMap (A * B) r L :=
  ⟨by
    rintro h ⟨a, b, h0, rfl, h1, h2⟩
    obtain ⟨es, c, hm, hh⟩ := hb.has b h2
    refine ⟨es, c, hm, ?_⟩
    rcases h0 r with h3 | h3
    · simp [Hp.join, h3, hh]
    · rw [h3] at hh; cases hh⟩
instance Take.smap (r : Nat) (L : Pairs) : Take (smap r L) (smap r) L emp := ⟨(sep_emp _).symm⟩
theorem MapOk.made : MapOk #[] 0 [] := ⟨rfl, by simp, by simp, by simp⟩
theorem says_smap_made (r : Nat) : (smap r []).says (Hp.one r (.map #[] 0)) := ⟨#[], 0, MapOk.made, rfl⟩
theorem of_text {w w0 : World} {S : Asn} {n : Nat} [m : Mod w w0 (Go.Sl.smap n [] * S)] : Mod w w0 (smap n [] * S) :=
  Mod.conv (S := Go.Sl.smap n [] * S) fun x hx => sep_imp (A := Go.Sl.smap n []) (A' := smap n []) (fun y ⟨es, c, hm, hh⟩ => by
    have : es = #[] := by have := congrArg List.length hm.keys; simpa using this
    subst this
    exact ⟨#[], c, ⟨rfl, by simp, by simp, by simp⟩, hh⟩) hx
/-- What a walk wants to know of a map's type, once for a type. -/
class SMap (P : Program) (t : TypeId) : Prop where
  map : P.underlying t = some (.map (P.mapKey t) (P.mapElem t))
  key : P.underlying (P.mapKey t) = some (.int .u32)
  zero : ∀ w, (zeroValue (P.mapElem t)).run P w = .ok (P.zeroOf (P.mapElem t)) w

section
variable {P : Program} {w w0 : World} {S : Asn} {t : TypeId} {r : Nat} {L : Pairs}
theorem mapBlock (w : World) [m : Mod w w0 S] [h : HasMap S r L] : ∃ es clock, MapOk es clock L ∧ w.heap[r]? = some (.map es clock) := by
  obtain ⟨a, b, _, h2, h3, _⟩ := m.says
  obtain ⟨es, c, hm, hh⟩ := h.has a h3
  refine ⟨es, c, hm, ?_⟩
  have : hp w r = some (.map es c) := by rw [h2]; simp [Hp.join, hh]
  exact this
theorem run_getObj_at {o : Obj} (h : w.heap[r]? = some o) (hc : ∀ c e f, o ≠ .cells c e f) : (getObj r).run P w = .ok o w := by
  cases o <;> simp [getObj, Sem.run, h] <;> exact absurd rfl (hc _ _ _)
theorem run_setObj_at {o o' : Obj} (h : w.heap[r]? = some o) (hc : ∀ c e f, o ≠ .cells c e f) : (setObj r o').run P w = .ok () { w with heap := w.heap.setIfInBounds r o' } := by
  cases o <;> simp [setObj, Sem.run, h] <;> exact absurd rfl (hc _ _ _)
theorem findNow_string (s : Nat) : ∀ (es : List MapEntry) (L : Pairs) (i : Nat), es.map (fun e => (e.key, e.val)) = L.map (fun p => (Value.int .u32 (p.1 : Int), p.2)) →
    Instr.findNow (.int .u32) (.int .u32 (s : Int)) es i = some ((L.findIdx? (fun p => decide (p.1 = s))).bind fun j => (L[j]?).map fun p => (i + j, p.2))
  | [], L, i, h => by
    have : L = [] := by cases L; rfl; simp at h
    subst this; simp [Instr.findNow]
  | e :: es, [], i, h => by simp at h
  | e :: es, p :: L, i, h => by
    simp only [List.map_cons, List.cons.injEq, Prod.mk.injEq] at h
    obtain ⟨⟨hk, hv⟩, hr⟩ := h
    have ih := findNow_string s es L (i + 1) hr
    simp only [Instr.findNow, hk, Instr.sameNow, List.findIdx?_cons]
    by_cases hs : p.1 = s
    · have h1 : ((s : Int) == (p.1 : Int)) = true := beq_iff_eq.2 (by rw [hs])
      simp only [h1]
      simp [hs, hv]
    · have h1 : ((s : Int) == (p.1 : Int)) = false := by
        cases h : ((s : Int) == (p.1 : Int)) with
        | false => rfl
        | true => exact absurd (Int.ofNat.inj (beq_iff_eq.1 h)).symm hs
      simp only [h1, hs, decide_false]
      rw [ih]
      cases hf : L.findIdx? (fun p => decide (p.1 = s)) with
      | none => simp
      | some j => simp [Nat.add_assoc, Nat.add_comm 1 j]
theorem mget_findIdx (L : Pairs) (s : Nat) : mget L s = (L.findIdx? (fun p => decide (p.1 = s))).bind fun j => (L[j]?).map (·.2) := by
  unfold mget
  induction L with
  | nil => simp
  | cons p L ih =>
    simp only [List.find?_cons, List.findIdx?_cons]
    by_cases hs : p.1 = s
    · simp [hs]
    · simp only [hs, ih, decide_false]
      cases hf : L.findIdx? (fun p => decide (p.1 = s)) <;> simp
theorem run_find {s : Nat} [T : SMap P t] {es : Array MapEntry} {c : Nat} (hm : MapOk es c L) (w : World) :
    (Instr.findKey (P.mapKey t) (.int .u32 (s : Int)) es.toList).run P w = .ok ((L.findIdx? (fun p => decide (p.1 = s))).bind fun j => (L[j]?).map fun p => (j, p.2)) w := by
  have := findNow_string s es.toList L 0 hm.keys
  simp only [Nat.zero_add] at this
  exact MapKept.run_findKey T.key this
theorem run_check {s : Nat} [T : SMap P t] (b : Bool) (w : World) : (Instr.checkKey b 10000 (P.mapKey t) (.int .u32 (s : Int))).run P w = .ok () w :=
  MapKept.run_checkKey (d := .int .u32) T.key (by trivial) b 9999
@[go_sem] theorem run_lookup_sok (s : Nat) [Mod w w0 S] [HasMap S r L] [T : SMap P t] :
    (Instr.lookup t (.map (some r)) (.int .u32 (s : Int)) true).run P w = .ok (.tuple #[(mget L s).getD (P.zeroOf (P.mapElem t)), .bool (mget L s).isSome]) w := by
  obtain ⟨es, c, hm, hw⟩ := mapBlock (w0 := w0) (S := S) (r := r) (L := L) w
  have h1 := run_find (P := P) (t := t) (s := s) hm w
  have hl := mget_findIdx L s
  cases hf : L.findIdx? (fun p => decide (p.1 = s)) with
  | none => rw [hf] at h1 hl; simp [Instr.lookup, run_underlying T.map, run_getObj_at hw, run_check, h1, T.zero, hl]
  | some j =>
    rw [hf] at h1 hl
    obtain ⟨hj, _⟩ := List.findIdx?_eq_some_iff_getElem.1 hf
    have hj' : L[j]? = some L[j] := List.getElem?_eq_getElem hj
    simp [hj'] at h1 hl
    simp [Instr.lookup, run_underlying T.map, run_getObj_at hw, run_check, h1, hl]
@[go_sem] theorem run_lookup_s (s : Nat) [Mod w w0 S] [HasMap S r L] [T : SMap P t] :
    (Instr.lookup t (.map (some r)) (.int .u32 (s : Int)) false).run P w = .ok ((mget L s).getD (P.zeroOf (P.mapElem t))) w := by
  obtain ⟨es, c, hm, hw⟩ := mapBlock (w0 := w0) (S := S) (r := r) (L := L) w
  have h1 := run_find (P := P) (t := t) (s := s) hm w
  have hl := mget_findIdx L s
  cases hf : L.findIdx? (fun p => decide (p.1 = s)) with
  | none => rw [hf] at h1 hl; simp [Instr.lookup, run_underlying T.map, run_getObj_at hw, run_check, h1, T.zero, hl]
  | some j =>
    rw [hf] at h1 hl
    obtain ⟨hj, _⟩ := List.findIdx?_eq_some_iff_getElem.1 hf
    have hj' : L[j]? = some L[j] := List.getElem?_eq_getElem hj
    simp [hj'] at h1 hl
    simp [Instr.lookup, run_underlying T.map, run_getObj_at hw, run_check, h1, hl]
@[go_sem] theorem run_len_smap (ty : TypeId) [Mod w w0 S] [HasMap S r L] [T : SMap P t] : (Builtin.len_ #[t] ty #[.map (some r)]).run P w = .ok (goInt L.length) w := by
  obtain ⟨es, c, hm, hw⟩ := mapBlock (w0 := w0) (S := S) (r := r) (L := L) w
  have hl : es.size = L.length := by have := congrArg List.length hm.keys; simpa using this
  simp [Builtin.len_, run_underlying T.map, run_getObj_at hw, hl]
/-- The world behind a store into a map with text keys. -/
def _root_.Go.World.mapPutU (w : World) (r : Nat) (s : Nat) (v : Value) : World :=
  match w.heap[r]? with
  | some (.map es clock) =>
    { w with heap := w.heap.setIfInBounds r (match Instr.findNow (.int .u32) (.int .u32 (s : Int)) es.toList 0 with
      | some (some (i, _)) => .map (es.modify i fun e => { e with key := .int .u32 (s : Int), val := v }) clock
      | _ => .map (es.push { key := .int .u32 (s : Int), val := v, born := clock }) (clock + 1)) }
  | _ => w
def _root_.Go.World.mapDelU (w : World) (r : Nat) (s : Nat) : World :=
  match w.heap[r]? with
  | some (.map es clock) =>
    { w with heap := w.heap.setIfInBounds r (match Instr.findNow (.int .u32) (.int .u32 (s : Int)) es.toList 0 with
      | some (some (i, _)) => .map (es.eraseIdxIfInBounds i) clock
      | _ => .map es clock) }
  | _ => w
@[simp] theorem size_mapPut (w : World) (r : Nat) (s : Nat) (v : Value) : (w.mapPutU r s v).heap.size = w.heap.size := by
  unfold World.mapPutU; split <;> simp
@[simp] theorem size_mapDel (w : World) (r : Nat) (s : Nat) : (w.mapDelU r s).heap.size = w.heap.size := by
  unfold World.mapDelU; split <;> simp
instance HpSize.mapPut (w : World) (n r : Nat) (s : Nat) (v : Value) [h : HpSize w n] : HpSize (w.mapPutU r s v) n := ⟨by simp [h.eq]⟩
instance HpSize.mapDel (w : World) (n r : Nat) (s : Nat) [h : HpSize w n] : HpSize (w.mapDelU r s) n := ⟨by simp [h.eq]⟩
theorem entry_at {es : Array MapEntry} {c : Nat} (hm : MapOk es c L) {j : Nat} (hj : j < L.length) : ∃ e, es[j]? = some e ∧ e.key = .int .u32 (L[j].1 : Int) ∧ e.val = L[j].2 := by
  have hl : es.size = L.length := by have := congrArg List.length hm.keys; simpa using this
  refine ⟨es[j], by simp [hl, hj], ?_⟩
  have := congrArg (fun l => l[j]?) hm.keys
  simp [hl, hj] at this
  exact this
theorem run_mapUpdate_s (s : Nat) (v : Value) [Mod w w0 S] [HasMap S r L] [T : SMap P t] :
    (Instr.mapUpdate t (.map (some r)) (.int .u32 (s : Int)) v).run P w = .ok () (w.mapPutU r s v) := by
  obtain ⟨es, c, hm, hw⟩ := mapBlock (w0 := w0) (S := S) (r := r) (L := L) w
  have h1 := run_find (P := P) (t := t) (s := s) hm w
  have h0 := findNow_string s es.toList L 0 hm.keys
  simp only [Nat.zero_add] at h0
  cases hf : L.findIdx? (fun p => decide (p.1 = s)) with
  | none =>
    rw [hf] at h1 h0
    simp [Instr.mapUpdate, run_underlying T.map, run_getObj_at hw, run_check, h1, World.mapPutU, hw, h0, run_setObj_at hw]
  | some j =>
    rw [hf] at h1 h0
    obtain ⟨hj, hk, _⟩ := List.findIdx?_eq_some_iff_getElem.1 hf
    have hj' : L[j]? = some L[j] := List.getElem?_eq_getElem hj
    obtain ⟨e, he, hek, hev⟩ := entry_at hm hj
    have hks : L[j].1 = s := by simpa using hk
    simp [hj'] at h1 h0
    have hst : (Instr.keyThatStays (.int .u32 (L[j].1 : Int)) (.int .u32 (s : Int))).run P w = .ok (.int .u32 (s : Int)) w := by
      rw [hks]; simp [Instr.keyThatStays, Instr.sameBits]
    simp [Instr.mapUpdate, run_underlying T.map, run_getObj_at hw, run_check, h1, World.mapPutU, hw, h0, run_setObj_at hw, he, hek, hst]
attribute [go_sem] run_mapUpdate_s
theorem run_delete_s (ty kt : TypeId) (s : Nat) [Mod w w0 S] [HasMap S r L] [T : SMap P t] :
    (Builtin.delete_ #[t, kt] ty #[.map (some r), .int .u32 (s : Int)]).run P w = .ok (.tuple #[]) (w.mapDelU r s) := by
  obtain ⟨es, c, hm, hw⟩ := mapBlock (w0 := w0) (S := S) (r := r) (L := L) w
  have h1 := run_find (P := P) (t := t) (s := s) hm w
  have h0 := findNow_string s es.toList L 0 hm.keys
  simp only [Nat.zero_add] at h0
  cases hf : L.findIdx? (fun p => decide (p.1 = s)) with
  | none =>
    rw [hf] at h1 h0
    simp [Builtin.delete_, run_underlying T.map, run_getObj_at hw, run_check, h1, World.mapDelU, hw, h0, run_setObj_at hw]
  | some j =>
    rw [hf] at h1 h0
    obtain ⟨hj, hk, _⟩ := List.findIdx?_eq_some_iff_getElem.1 hf
    have hj' : L[j]? = some L[j] := List.getElem?_eq_getElem hj
    simp [hj'] at h1 h0
    simp [Builtin.delete_, run_underlying T.map, run_getObj_at hw, run_check, h1, World.mapDelU, hw, h0, run_setObj_at hw]
attribute [go_sem] run_delete_s
@[go_sem] theorem run_makeMap_s : (Instr.makeMap t none).run P w = .ok (.map (some w.heap.size)) (w.alloc (.map #[] 0)) := by
  simp [Instr.makeMap]

theorem map_eraseIdx' {α β : Type} (f : α → β) : ∀ (l : List α) (j : Nat), (l.eraseIdx j).map f = (l.map f).eraseIdx j
  | [], _ => by simp
  | _ :: _, 0 => by simp
  | a :: l, j + 1 => by simp [map_eraseIdx' f l j]
theorem keys_modify {es : Array MapEntry} {j : Nat} {s : Nat} {v : Value} (hj : j < L.length) (hk : es.toList.map (fun e => (e.key, e.val)) = L.map (fun p => (Value.int .u32 (p.1 : Int), p.2)))
    (hs : L[j].1 = s) : (es.modify j fun e => { e with key := .int .u32 (s : Int), val := v }).toList.map (fun e => (e.key, e.val)) = (L.modify j fun p => (p.1, v)).map (fun p => (Value.int .u32 (p.1 : Int), p.2)) := by
  have hl : es.size = L.length := by have := congrArg List.length hk; simpa using this
  apply List.ext_getElem?
  intro i
  have hi := congrArg (fun l => l[i]?) hk
  simp only [List.getElem?_map, Array.getElem?_toList] at hi
  simp only [List.getElem?_map, Array.getElem?_toList, Array.getElem?_modify, List.getElem?_modify]
  by_cases hij : j = i
  · subst hij
    simp [hl, hj, hs]
  · simp only [if_neg hij]
    cases h1 : es[i]? <;> cases h2 : L[i]? <;> simp_all
theorem put_modify {s : Nat} {v : Value} {j : Nat} (hn : (L.map (·.1)).Nodup) (hj : j < L.length) (hs : L[j].1 = s) : mput L s v = L.modify j fun p => (p.1, v) := by
  unfold mput
  rw [if_pos (List.any_eq_true.2 ⟨L[j], List.getElem_mem hj, by simp [hs]⟩)]
  apply List.ext_getElem?
  intro i
  simp only [List.getElem?_map, List.getElem?_modify]
  by_cases hij : j = i
  · subst hij; simp [hj, hs]
  · simp only [if_neg hij]
    cases h2 : L[i]? with
    | none => simp
    | some p =>
      obtain ⟨hi, rfl⟩ := List.getElem?_eq_some_iff.1 h2
      have hne : L[i].1 ≠ s := by
        intro he
        have := List.getElem_inj (h₀ := by simpa using hj) (h₁ := by simpa using hi) hn
        simp only [List.getElem_map] at this
        exact hij (this.1 (hs.trans he.symm))
      simp [hne]
theorem keys_put (L : Pairs) (s : Nat) (v : Value) (h : L.any (fun p => decide (p.1 = s)) = true) : (mput L s v).map (·.1) = L.map (·.1) := by
  unfold mput
  rw [if_pos h, List.map_map]
  apply List.map_congr_left
  intro p _
  simp only [Function.comp]
  split <;> rfl
theorem any_of_find {s : Nat} {j : Nat} (hj : j < L.length) (hs : L[j].1 = s) : L.any (fun p => decide (p.1 = s)) = true := by
  exact List.any_eq_true.2 ⟨L[j], List.getElem_mem hj, by simp [hs]⟩
theorem MapOk.put {es : Array MapEntry} {c : Nat} (hm : MapOk es c L) (s : Nat) (v : Value) :
    ∃ es' c', (match Instr.findNow (.int .u32) (.int .u32 (s : Int)) es.toList 0 with
      | some (some (i, _)) => Obj.map (es.modify i fun e => { e with key := .int .u32 (s : Int), val := v }) c
      | _ => .map (es.push { key := .int .u32 (s : Int), val := v, born := c }) (c + 1)) = .map es' c' ∧ MapOk es' c' (mput L s v) := by
  have h0 := findNow_string s es.toList L 0 hm.keys
  simp only [Nat.zero_add] at h0
  cases hf : L.findIdx? (fun p => decide (p.1 = s)) with
  | none =>
    rw [hf] at h0
    simp only [Option.bind_none] at h0
    rw [h0]
    have hany : L.any (fun p => decide (p.1 = s)) = false := by
      rw [List.findIdx?_eq_none_iff] at hf
      rw [List.any_eq_false]
      intro p hp; simpa using hf p hp
    have hput : mput L s v = L ++ [(s, v)] := by unfold mput; rw [if_neg (by rw [hany]; simp)]
    refine ⟨_, _, rfl, ?_⟩
    rw [hput]
    refine ⟨by simp [hm.keys], ?_, ?_, ?_⟩
    · simp only [Array.toList_push]
      rw [List.pairwise_append]
      exact ⟨hm.born, by simp, fun a ha b hb => by simp at hb; subst hb; exact hm.lt a ha⟩
    · intro e he
      simp only [Array.toList_push, List.mem_append, List.mem_singleton] at he
      rcases he with he | rfl
      · have := hm.lt e he; omega
      · simp
    · rw [List.map_append, List.nodup_append]
      refine ⟨hm.nodup, by simp, ?_⟩
      intro a ha b hb
      simp at hb; subst hb
      rintro rfl
      rw [List.mem_map] at ha
      obtain ⟨p, hp, rfl⟩ := ha
      rw [List.any_eq_false] at hany
      exact hany p hp (by simp)
  | some j =>
    rw [hf] at h0
    obtain ⟨hj, hk, _⟩ := List.findIdx?_eq_some_iff_getElem.1 hf
    have hj' : L[j]? = some L[j] := List.getElem?_eq_getElem hj
    have hks : L[j].1 = s := by simpa using hk
    simp only [Option.bind_some, hj', Option.map_some] at h0
    rw [h0]
    refine ⟨_, _, rfl, ?_⟩
    have hput := put_modify (v := v) hm.nodup hj hks
    refine ⟨by rw [hput]; exact keys_modify hj hm.keys hks, ?_, ?_, by rw [keys_put L s v (any_of_find hj hks)]; exact hm.nodup⟩
    · have e : (es.modify j fun e => { e with key := .int .u32 (s : Int), val := v }).toList.map (·.born) = es.toList.map (·.born) := by
        apply List.ext_getElem?; intro i
        simp only [List.getElem?_map, Array.getElem?_toList, Array.getElem?_modify]
        split
        · cases es[i]? <;> simp
        · rfl
      have := hm.born
      have h1 : (es.toList.map (·.born)).Pairwise (· < ·) := List.pairwise_map.2 this
      rw [← e] at h1
      exact List.pairwise_map.1 h1
    · intro e he
      rw [List.mem_iff_getElem?] at he
      obtain ⟨i, hi⟩ := he
      simp only [Array.getElem?_toList, Array.getElem?_modify] at hi
      split at hi
      · cases h2 : es[i]? with
        | none => rw [h2] at hi; simp at hi
        | some x =>
          rw [h2] at hi
          simp at hi
          subst hi
          exact hm.lt x (List.mem_of_getElem? (by rw [Array.getElem?_toList]; exact h2))
      · exact hm.lt e (List.mem_of_getElem? (by rw [Array.getElem?_toList]; exact hi))
theorem MapOk.del {es : Array MapEntry} {c : Nat} (hm : MapOk es c L) (s : Nat) :
    ∃ es' c', (match Instr.findNow (.int .u32) (.int .u32 (s : Int)) es.toList 0 with
      | some (some (i, _)) => Obj.map (es.eraseIdxIfInBounds i) c
      | _ => .map es c) = .map es' c' ∧ MapOk es' c' (mdel L s) := by
  have h0 := findNow_string s es.toList L 0 hm.keys
  simp only [Nat.zero_add] at h0
  cases hf : L.findIdx? (fun p => decide (p.1 = s)) with
  | none =>
    rw [hf] at h0
    simp only [Option.bind_none] at h0
    rw [h0]
    have hd : mdel L s = L := by
      unfold mdel
      rw [List.filter_eq_self]
      rw [List.findIdx?_eq_none_iff] at hf
      intro p hp; simpa using hf p hp
    exact ⟨_, _, rfl, by rw [hd]; exact hm⟩
  | some j =>
    rw [hf] at h0
    obtain ⟨hj, hk, _⟩ := List.findIdx?_eq_some_iff_getElem.1 hf
    have hj' : L[j]? = some L[j] := List.getElem?_eq_getElem hj
    have hks : L[j].1 = s := by simpa using hk
    simp only [Option.bind_some, hj', Option.map_some] at h0
    rw [h0]
    have hl : es.size = L.length := by have := congrArg List.length hm.keys; simpa using this
    have hes : (es.eraseIdxIfInBounds j).toList = es.toList.eraseIdx j := by
      rw [Array.eraseIdxIfInBounds, dif_pos (by omega)]
      simp [Array.toList_eraseIdx]
    have hd : mdel L s = L.eraseIdx j := by
      unfold mdel
      have hsub : ∀ (l : Pairs) (j : Nat) (hj : j < l.length), (l.map (·.1)).Nodup → l[j].1 = s → l.filter (fun p => !decide (p.1 = s)) = l.eraseIdx j := by
        intro l
        induction l with
        | nil => intro j hj; simp at hj
        | cons p l ih =>
          intro j hj hn hs
          rw [List.map_cons, List.nodup_cons] at hn
          cases j with
          | zero =>
            simp only [List.getElem_cons_zero] at hs
            simp only [List.eraseIdx_zero, List.tail_cons]
            rw [List.filter_cons, if_neg (by simp [hs]), List.filter_eq_self]
            intro q hq
            have : q.1 ≠ s := fun e => hn.1 (by rw [hs, ← e]; exact List.mem_map_of_mem hq)
            simp [this]
          | succ j =>
            simp only [List.getElem_cons_succ] at hs
            have hj2 : j < l.length := by simpa using hj
            have hne : p.1 ≠ s := fun e => hn.1 (by rw [e, ← hs]; exact List.mem_map_of_mem (List.getElem_mem hj2))
            rw [List.filter_cons, if_pos (by simp [hne]), List.eraseIdx_cons_succ, ih j hj2 hn.2 hs]
      exact hsub L j hj hm.nodup hks
    refine ⟨_, _, rfl, ?_⟩
    rw [hd]
    refine ⟨by rw [hes, map_eraseIdx', hm.keys, ← map_eraseIdx'], ?_, ?_, ?_⟩
    · rw [hes]; exact hm.born.sublist (List.eraseIdx_sublist _ _)
    · rw [hes]; exact fun e he => hm.lt e ((List.eraseIdx_sublist _ _).subset he)
    · rw [map_eraseIdx']; exact hm.nodup.sublist (List.eraseIdx_sublist _ _)
theorem smap_turn {F : Asn} {L' : Pairs} {w' : World} [m : Mod w w0 S] [tk : Take S (smap r) L F] (h1 : w'.os = w.os) (h2 : w'.tape = w.tape) (h3 : w'.output = w.output)
    (h : ∀ es c, MapOk es c L → w.heap[r]? = some (.map es c) → ∃ es' c', w'.heap = w.heap.setIfInBounds r (.map es' c') ∧ MapOk es' c' L') : Mod w' w0 (smap r L' * F) := by
  have hb : HasMap S r L := by rw [tk.eq]; infer_instance
  obtain ⟨es, c, hm, hw⟩ := mapBlock (w0 := w0) (S := S) (r := r) (L := L) w
  obtain ⟨es', c', hh, hm'⟩ := h es c hm hw
  have hr : r < w.heap.size := (Array.getElem?_eq_some_iff.1 hw).1
  refine Mod.turn (w := w) (g := r) (pred := smap r) (u := L) h1 h2 h3 (fun k hk => ?_) (fun x ⟨es, c, _, hx⟩ => ?_) (fun x ⟨es, c, _, hx⟩ _ => ?_)
  · rw [hh, Array.getElem?_setIfInBounds_ne (Ne.symm hk)]
  · rw [hx]; exact ⟨fun k hk => by simp [Hp.one, hk], by simp [Hp.one]⟩
  · refine ⟨es', c', hm', ?_⟩
    funext k
    by_cases hk : k = r
    · subst hk; simp [Hp.one, hh, hr]
    · simp [Hp.one, hk]
instance Mod.mapPut {F : Asn} {s : Nat} {v : Value} [m : Mod w w0 S] [tk : Take S (smap r) L F] : Mod (w.mapPutU r s v) w0 (smap r (mput L s v) * F) := by
  have hb : HasMap S r L := by rw [tk.eq]; infer_instance
  obtain ⟨es, c, hm, hw⟩ := mapBlock (w0 := w0) (S := S) (r := r) (L := L) w
  refine smap_turn (w := w) (L := L) (F := F) ?_ ?_ ?_ (fun es c hm hw => ?_)
  · simp [World.mapPutU, hw]
  · simp [World.mapPutU, hw]
  · simp [World.mapPutU, hw]
  · obtain ⟨es', c', h1, h2⟩ := hm.put s v
    exact ⟨es', c', by simp only [World.mapPutU, hw]; rw [← h1], h2⟩
instance Mod.mapDel {F : Asn} {s : Nat} [m : Mod w w0 S] [tk : Take S (smap r) L F] : Mod (w.mapDelU r s) w0 (smap r (mdel L s) * F) := by
  have hb : HasMap S r L := by rw [tk.eq]; infer_instance
  obtain ⟨es, c, hm, hw⟩ := mapBlock (w0 := w0) (S := S) (r := r) (L := L) w
  refine smap_turn (w := w) (L := L) (F := F) ?_ ?_ ?_ (fun es c hm hw => ?_)
  · simp [World.mapDelU, hw]
  · simp [World.mapDelU, hw]
  · simp [World.mapDelU, hw]
  · obtain ⟨es', c', h1, h2⟩ := hm.del s
    exact ⟨es', c', by simp only [World.mapDelU, hw]; rw [← h1], h2⟩
end
end Go.Sl.U32
namespace Go.Sl
open Go
def addN (ks : List Nat) (k : Nat) : List Nat := if k ∈ ks then ks else ks ++ [k]
theorem addN_len : ∀ (l ks : List Nat), ks.Nodup → (l.foldl addN ks).length ≤ ks.length + l.length ∧ ((l.foldl addN ks).length = ks.length + l.length ↔ (ks ++ l).Nodup)
  | [], ks, h => ⟨by simp, by simp [h]⟩
  | k :: l, ks, h => by
    simp only [List.foldl_cons]
    unfold addN
    by_cases hk : k ∈ ks
    · rw [if_pos hk]
      have ih := (addN_len l ks h).1
      unfold addN at ih
      refine ⟨by simp only [List.length_cons]; omega, ⟨fun e => by simp only [List.length_cons] at e; omega, fun e => ?_⟩⟩
      rw [List.nodup_append] at e
      exact absurd rfl (e.2.2 k hk k (by simp))
    · rw [if_neg hk]
      have h2 : (ks ++ [k]).Nodup := by
        rw [List.nodup_append]
        refine ⟨h, by simp, fun a ha b hb => ?_⟩
        simp at hb
        subst hb
        rintro rfl
        exact hk ha
      have ih := addN_len l (ks ++ [k]) h2
      unfold addN at ih
      simp only [List.length_append, List.length_cons, List.length_nil, List.append_assoc, List.cons_append, List.nil_append] at ih ⊢
      exact ⟨by omega, by rw [← ih.2]; omega⟩
/-- Have two files one number? -/
def twiceF (l : List FileV) : Bool := !decide (l.map (·.num)).Nodup
theorem twiceF_len (l : List FileV) : decide (((l.map (·.num)).foldl addN []).length < l.length) = twiceF l := by
  have h := addN_len (l.map (·.num)) [] (by simp)
  simp only [List.length_nil, List.length_map, Nat.zero_add, List.nil_append] at h
  unfold twiceF
  by_cases hn : (l.map (·.num)).Nodup
  · have e := h.2.2 hn
    simp [hn, e]
  · have : ¬ ((l.map (·.num)).foldl addN []).length = l.length := fun e => hn (h.2.1 e)
    simp [hn]
    omega
theorem keys_mput (L : U32.Pairs) (s : Nat) (v : Value) : (U32.mput L s v).map (·.1) = addN (L.map (·.1)) s := by
  unfold addN
  by_cases h : L.any (fun p => decide (p.1 = s)) = true
  · rw [U32.keys_put L s v h, if_pos]
    obtain ⟨p, hp, hs⟩ := List.any_eq_true.1 h
    exact List.mem_map.2 ⟨p, hp, by simpa using hs⟩
  · rw [if_neg]
    · unfold U32.mput; rw [if_neg h]; simp
    · intro hm
      obtain ⟨p, hp, hs⟩ := List.mem_map.1 hm
      exact h (List.any_eq_true.2 ⟨p, hp, by simpa using hs⟩)
/-- All elements are numbers. -/
def IntVals (L : U32.Pairs) : Prop := ∀ p ∈ L, ∃ c : Int, p.2 = .int .i64 c
theorem IntVals.put {L : U32.Pairs} (h : IntVals L) (s : Nat) (c : Int) : IntVals (U32.mput L s (.int .i64 c)) := by
  unfold U32.mput
  split
  · intro p hp
    obtain ⟨q, hq, rfl⟩ := List.mem_map.1 hp
    split
    · exact ⟨c, rfl⟩
    · exact h q hq
  · intro p hp
    rcases List.mem_append.1 hp with hp | hp
    · exact h p hp
    · simp at hp; subst hp; exact ⟨c, rfl⟩
theorem IntVals.get {L : U32.Pairs} (h : IntVals L) (s : Nat) : ∃ c : Int, (U32.mget L s).getD (.int .i64 0) = .int .i64 c := by
  unfold U32.mget
  cases hf : L.find? (fun p => decide (p.1 = s)) with
  | none => exact ⟨0, rfl⟩
  | some p =>
    obtain ⟨c, hc⟩ := h p (List.mem_of_find?_eq_some hf)
    exact ⟨c, by simp [hc]⟩
end Go.Sl
namespace Go.Proofs.YtmhlebpchllpbaaGreatDoor
open Go.RowKit Go.Sl
attribute [local go_sem] cell_of cellAt_of frozen_of
instance smap_u32 : U32.SMap Tryz.prog 164 := ⟨by kernel_rfl, by kernel_rfl, fun w => by kernel_rfl⟩
theorem zero_u32map : Tryz.prog.zeroOf (Tryz.prog.mapElem 164) = .int .i64 0 := by kernel_rfl
set_option maxRecDepth 4000 in
set_option maxHeartbeats 4000000 in
theorem etwice_spec (A : Option Addr) (n c : Nat) (l : List FileV) (w w0 : World) (S : Asn) (m : Mod w w0 S) (r : ReadsFiles S A n l) (hn : n ≤ 1000000000) :
    Calls Tryz.prog 75 #[.slice A n c] w fun e w' => e = .returned (.bool (twiceF l)) ∧ Mod w' w0 S := by
  have R := Lib.hid r
  have hz := twiceF_len l
  rw [r.len] at hz
  have Hz := Lib.hid hz
  generalize twiceF l = z at *
  clear r hz
  obtain ⟨g, hg⟩ : ∃ g, w.heap.size = g := ⟨_, rfl⟩
  have m1 : Mod (w.alloc (.map #[] 0)) w0 (Go.Sl.smap g [] * S) := by rw [← hg]; exact inferInstance
  have mM : Mod (w.alloc (.map #[] 0)) w0 (U32.smap g [] * S) := U32.of_text
  clear m1
  go_enter Tryz.func75, Tryz.ntmps75
  go_wp2_with fail
  have Hg := Lib.hid hg
  clear hg
  go_loopg [9] n (fun gk iv wr => ∃ (i : Nat) (L : U32.Pairs), i ≤ n ∧ gk = n - i ∧ iv = .int .i64 (i : Int) ∧ Hid (L.map (·.1) = ((l.take i).map (·.num)).foldl addN []) ∧ Hid (IntVals L) ∧ Mod wr w0 (U32.smap g L * S))
  case atStart => exact ⟨0, [], Nat.zero_le _, rfl, rfl, rfl, (fun p hp => by cases hp), mM⟩
  case round =>
    obtain ⟨i, L, hi, hgk, rfl, HL, HI, m2⟩ := hrel
    by_cases hlt : i < n
    · have hii : (i : Int) < (n : Int) := by omega
      have hil : i < l.length := by rw [R.out.len]; exact hlt
      obtain ⟨b, o, rfl⟩ := files_some m2 (R.out.lift inferInstance) hlt
      obtain ⟨c0, c1, c2, c3⟩ := file_at R.out hil
      have Hs : Hid (∀ v, (U32.mput L l[i].num v).map (·.1) = ((l.take (i + 1)).map (·.num)).foldl addN []) := fun v => by
        rw [keys_mput, HL.out, List.take_succ_eq_append_getElem hil, List.map_append, List.foldl_append]; rfl
      generalize l[i] = f at *
      obtain ⟨cc, hcc⟩ := HI.out.get f.num
      rw [← zero_u32map] at hcc
      go_wp2_with fail
      go_roundg (n - (i + 1))
      case measure => omega
      case rel => exact ⟨i + 1, U32.mput L f.num (.int .i64 (wrap64 (cc + 1))), hlt, rfl, by go_num, Hs.out _, HI.out.put _ _, Mod.keep inferInstance⟩
    · have hii : ¬ (i : Int) < (n : Int) := by omega
      have hle : decide (L.length < n) = z := by
        rw [← Hz.out, List.take_of_length_le (by have := R.out.len; omega)] at *
        have := congrArg List.length HL.out
        rw [List.length_map] at this
        rw [this]
      have Hle := Lib.hid hle
      clear hle
      go_wp2_with fail
      go_ret
      exact ⟨by rw [← Hle.out]; simp, m2.drop⟩
end Go.Proofs.YtmhlebpchllpbaaGreatDoor
namespace Go.Sl
open Go Go.Sort Go.Lib Go.Shelf Go.Proofs Go.RowKit Go.Proofs.YtmhlebpchllpbaaGreatDoor
/-- The files of these numbers are taken out, one by one. -/
def dropNums : List FileV → List Nat → Option (List FileV)
  | l, [] => some l
  | l, v :: vs => match l.findIdx? (fun f => decide (f.num = v)) with
    | none => none
    | some i => dropNums (l.eraseIdx i) vs
def leF (a b : FileV) : Bool := !ltOf cmpF b a
def sortFiles (l : List FileV) : List FileV := l.mergeSort leF
/-- What edits.Do makes of files and an edit. -/
def doE (l : List FileV) (x : EditV) : Option (List FileV) :=
  if fineF l = false ∨ fineF x.added = false ∨ twiceF l = true then none else
  match dropNums l x.removed with
  | none => none
  | some l1 => if twiceF (l1 ++ x.added) = true then none else some (sortFiles (l1 ++ x.added))
theorem leF_iff (a b : FileV) : leF a b = true ↔ a.level < b.level ∨ a.level = b.level ∧ a.num ≤ b.num := by
  unfold leF
  rw [ltF]
  simp
  omega
theorem sortFiles_sorted (l : List FileV) : (sortFiles l).Pairwise fun a b => leF a b = true :=
  List.pairwise_mergeSort (fun a b c h1 h2 => by rw [leF_iff] at *; omega) (fun a b => by
    rw [Bool.or_eq_true, leF_iff, leF_iff]; omega) l
theorem sorted_one {l l' : List FileV} (hp : l'.Perm l) (hs : sortedF l') (ht : twiceF l = false) : l' = sortFiles l := by
  have hn : (l.map (·.num)).Nodup := by unfold twiceF at ht; simpa using ht
  have hpm : l'.Perm (sortFiles l) := hp.trans (List.mergeSort_perm l leF).symm
  refine List.Perm.eq_of_pairwise (le := fun a b => leF a b = true) ?_ ?_ (sortFiles_sorted l) hpm
  · intro a b ha hb h1 h2
    rw [leF_iff] at h1 h2
    have hab : a.num = b.num := by omega
    have ha2 := hp.subset ha
    have hb2 := (List.mergeSort_perm l leF).subset hb
    obtain ⟨i, hi, rfl⟩ := List.mem_iff_getElem.1 ha2
    obtain ⟨j, hj, rfl⟩ := List.mem_iff_getElem.1 hb2
    have := List.getElem_inj (h₀ := by simpa using hi) (h₁ := by simpa using hj) hn
    simp only [List.getElem_map] at this
    have hij := this.1 hab
    subst hij
    rfl
  · exact hs.imp fun h => by unfold leF; rw [h]; rfl
end Go.Sl
namespace Go.Proofs.YtmhlebpchllpbaaGreatDoor
open Go.RowKit Go.Sl
attribute [local go_sem] cell_of cellAt_of frozen_of zero_names
set_option maxHeartbeats 1000000 in
theorem eDo1_spec (p num : Nat) (f : FileV) (w w0 : World) (S : Asn) (m : Mod w w0 S) (hp : Has S p (.cells #[.int .u32 (num : Int)] 36 (0, 0))) : Calls Tryz.prog 77 #[.agg #[.int .u32 (f.num : Int), .int .i64 f.level, .string f.least, .string f.most], .pointer (some ⟨p, 0, none⟩)] w fun e w' => e = .returned (.bool (decide (f.num = num))) ∧ Mod w' w0 S := by
  obtain ⟨num', lv, a, b⟩ := f
  obtain ⟨z, hz⟩ : ∃ z, decide (num' = num) = z := ⟨_, rfl⟩
  have hz2 : ((num' : Int) == (num : Int)) = z := by
    rw [← hz]
    by_cases h : num' = num
    · simp [h]
    · have : ¬ (num' : Int) = (num : Int) := by omega
      simp [h, this]
  show Calls Tryz.prog _ #[.agg #[.int .u32 (num' : Int), .int .i64 lv, .string a, .string b], _] _ fun e w' => e = .returned (.bool (decide (num' = num))) ∧ _
  rw [hz]
  clear hz
  go_enter Tryz.func77, Tryz.ntmps77
  go_wp2_with fail
  go_ret
  exact ⟨rfl, Mod.keep (Mod.alloc (m := m) _)⟩
set_option maxHeartbeats 4000000 in
theorem indexNum_spec (p num : Nat) (A : Option Addr) (n c : Nat) (l : List FileV) (w w0 : World) (S : Asn) (m : Mod w w0 S) (hp : Has S p (.cells #[.int .u32 (num : Int)] 36 (0, 0))) (r : ReadsFiles S A n l) (hn : n ≤ 1000000000) :
    Calls Tryz.prog 76 #[.slice A n c, .func (.func 77) #[] #[.pointer (some ⟨p, 0, none⟩)]] w fun e w' => e = .returned (.int .i64 (indexOf (fun f => decide (f.num = num)) l)) ∧ Mod w' w0 S := by
  have R := Lib.hid r
  obtain ⟨z, hz⟩ : ∃ z, indexOf (fun f => decide (f.num = num)) l = z := ⟨_, rfl⟩
  rw [hz]
  have Hz := Lib.hid hz
  clear r hz
  go_enter Tryz.func76, Tryz.ntmps76
  go_wp2_with fail
  go_loopg [8] n (fun gk iv wr => ∃ i : Nat, i ≤ n ∧ gk = n - i ∧ iv = .int .i64 (i : Int) ∧ Hid (∀ j (_ : j < l.length), j < i → decide (l[j].num = num) = false) ∧ Mod wr w0 S)
  case atStart => exact ⟨0, Nat.zero_le _, rfl, rfl, (fun j _ hj => by omega), m⟩
  case round =>
    obtain ⟨i, hi, hgk, rfl, Hall, m1⟩ := hrel
    by_cases hlt : i < n
    · have hii : (i : Int) < (n : Int) := by omega
      have hil : i < l.length := by rw [R.out.len]; exact hlt
      obtain ⟨b, o, rfl⟩ := files_some m1 R.out hlt
      obtain ⟨c0, c1, c2, c3⟩ := file_at R.out hil
      have HF := Lib.hid (fun (u : World) (mu : Mod u w0 S) => eDo1_spec p num l[i] u w0 S mu hp)
      cases hpp : decide (l[i].num = num) with
      | false =>
        rw [hpp] at HF
        have Hnext : Hid (∀ j (_ : j < l.length), j < i + 1 → decide (l[j].num = num) = false) := fun j hj hji => by
          by_cases e : j = i
          · subst e; exact hpp
          · exact Hall.out j hj (by omega)
        clear hpp
        generalize l[i] = f at *
        go_wp2_with (go_at_call 77; refine (HF.out _ m1).mono ?_; rintro e w1 ⟨rfl, m2⟩)
        go_roundg (n - (i + 1))
        case measure => omega
        case rel => exact ⟨i + 1, hlt, rfl, by go_num, Hnext, m2⟩
      | true =>
        rw [hpp] at HF
        have Hend : Hid (z = (i : Int)) := by show _ = _; rw [← Hz.out]; exact indexOf_at hil Hall.out hpp
        clear hpp
        generalize l[i] = f at *
        go_wp2_with (go_at_call 77; refine (HF.out _ m1).mono ?_; rintro e w1 ⟨rfl, m2⟩)
        (try rw [Exit.noGoto_ret])
        go_ret
        exact ⟨by rw [Hend.out]; rfl, m2⟩
    · have hii : ¬ (i : Int) < (n : Int) := by omega
      have Hend : Hid (z = -1) := by
        show _ = _
        rw [← Hz.out]
        exact indexOf_none fun j hj => Hall.out j hj (by have := R.out.len; omega)
      go_wp2_with fail
      go_ret
      exact ⟨by rw [Hend.out]; rfl, m1⟩
end Go.Proofs.YtmhlebpchllpbaaGreatDoor
namespace Go.Sl
open Go Go.Sort
theorem setCells_mod {w0 : World} {g : Nat} {ty : TypeId} {F : Asn} : ∀ (vs : List Value) (o : Nat) (cs : Array Value) (w : World), Mod w w0 (blk g (.cells cs ty (0, 0)) * F) → Mod (w.setCells g o vs) w0 (blk g (.cells (setMany cs o vs) ty (0, 0)) * F)
  | [], _, _, _, m => m
  | v :: vs, o, cs, w, m => by
    have hT : Take (blk g (.cells cs ty (0, 0)) * F) (blk g) (.cells cs ty (0, 0)) F := ⟨rfl⟩
    exact setCells_mod vs (o + 1) (cs.setIfInBounds o v) (w.setCell ⟨g, o, none⟩ v) (Mod.setCells (m := m) (t := hT) v)
theorem setMany_get? (cs : Array Value) (o : Nat) (vs : List Value) (h : o + vs.length ≤ cs.size) (t : Nat) : (setMany cs o vs)[t]? = if o ≤ t ∧ t < o + vs.length then vs[t - o]? else cs[t]? := by
  by_cases ht : t < cs.size
  · have e := get_setMany vs o cs t ht
    rw [getElem!_pos _ t (by simpa using ht)] at e
    rw [Array.getElem?_eq_getElem (by simpa using ht), e]
    split
    · rename_i h2
      rw [getElem!_pos vs (t - o) (by omega), List.getElem?_eq_getElem (by omega)]
    · rw [getElem!_pos cs t ht, Array.getElem?_eq_getElem ht]
  · rw [Array.getElem?_eq_none (by simp; omega), if_neg (by omega), Array.getElem?_eq_none (by omega)]
theorem wpList_append_run {P : Program} {w w' : World} {ops : Array Oper} {rest : List Oper} {o : Oper} {a : Act} {Q : Exit → Act → World → Prop} {s x : Operand} {t : TypeId} {v u r : Value} (hgd : o.guard = none)
    (ho : o.op = .call { callee := .builtin .append, args := #[s, x], argTypes := #[t, t] }) (hs : a.eval s = v) (hx : a.eval x = u) (hrun : (Builtin.append_ #[t, t] o.type #[v, u]).run P w = .ok r w') (h : wpList P ops Q rest (a.put o.dst r) w') : wpList P ops Q (o :: rest) a w :=
  wpList_plain hgd fun _ hK => by
    unfold Oper.wp execOp
    simp only [ho, resolve, invoke, builtin, Sem.run_bind, Sem.run_pure, Result.andThen_ok, List.map_toArray, List.map_cons, List.map_nil, hs, hx, hrun]
    exact hK _ _ h
theorem wpList_clear_run {P : Program} {w w' : World} {ops : Array Oper} {rest : List Oper} {o : Oper} {a : Act} {Q : Exit → Act → World → Prop} {x : Operand} {t : TypeId} {u r : Value} (hgd : o.guard = none)
    (ho : o.op = .call { callee := .builtin .clear, args := #[x], argTypes := #[t] }) (hx : a.eval x = u) (hrun : (Builtin.clear_ #[t] o.type #[u]).run P w = .ok r w') (h : wpList P ops Q rest (a.put o.dst r) w') : wpList P ops Q (o :: rest) a w :=
  wpList_plain hgd fun _ hK => by
    unfold Oper.wp execOp
    simp only [ho, resolve, invoke, builtin, Sem.run_bind, Sem.run_pure, Result.andThen_ok, List.map_toArray, List.map_cons, List.map_nil, hx, hrun]
    exact hK _ _ h
end Go.Sl
namespace Go.Proofs.YtmhlebpchllpbaaGreatDoor
open Go.RowKit Go.Sl Go.Sort
attribute [local go_sem] cell_of cellAt_of frozen_of zero_names
/-- A file of nothing. -/
def noFile : List Value := [.int .u32 0, .int .i64 0, .string ByteArray.empty, .string ByteArray.empty]
set_option maxRecDepth 100000 in
theorem run_clearF {w w0 : World} {F : Asn} {g o c : Nat} {cs : Array Value} (m : Mod w w0 (Go.Sl.blk g (.cells cs 44 (0, 0)) * F)) (h : o + 4 ≤ cs.size) (ty : TypeId) :
    (Builtin.clear_ #[32] ty #[.slice (some ⟨g, o, none⟩) 1 c]).run Tryz.prog w = .ok (.tuple #[]) (w.setCells g o noFile) := by
  have hh : w.heap[g]? = some (.cells cs 44 (0, 0)) := Mod.heap (m := m)
  have hst := run_storeCells_cells (P := Tryz.prog) g o noFile 0 w (fun j hj => by
    rw [cell_of (w := w) (cs := cs) (t := 44), Array.getElem?_eq_getElem (by simp [noFile] at hj; omega)]; rfl) (fun j hj => frozen_of (w := w) (cs := cs) (t := 44)) (fun v hv => by simp [noFile] at hv; rcases hv with rfl | rfl | rfl | rfl <;> rfl)
  simp only [Nat.add_zero] at hst
  have hu : Tryz.prog.underlying 32 = some (.slice 44) := by kernel_rfl
  have hz : ∀ w, (zeroValue 44).run Tryz.prog w = .ok (.agg noFile.toArray) w := fun w => by kernel_rfl
  have hzc : (Builtin.zeroCells (Value.agg noFile.toArray).cells 1).toList = noFile := by
    simp only [Builtin.zeroCells, Array.toList_map, Array.toList_range]
    rfl
  simp [Builtin.clear_, run_underlying hu, hz, hzc, hst]
theorem run_appF {w w0 : World} {F : Asn} {g i n c c' o' : Nat} {cs : Array Value} (m : Mod w w0 (Go.Sl.blk g (.cells cs 44 (0, 0)) * F)) (hi : i < n) (ho : o' = (i + 1) * 4 ∨ n = i + 1) (hc : n ≤ c) (hs : n * 4 ≤ cs.size) (h1 : ∀ v ∈ (cs.toList.take (n * 4)).drop ((i + 1) * 4), v.oneCell' = true) (ty : TypeId) :
    (Builtin.append_ #[32, 32] ty #[.slice (some ⟨g, 0, none⟩) i c, .slice (some ⟨g, o', none⟩) (n - (i + 1)) c']).run Tryz.prog w = .ok (.slice (some ⟨g, 0, none⟩) (n - 1) c) (w.setCells g (i * 4) ((cs.toList.take (n * 4)).drop ((i + 1) * 4))) := by
  have hi2 : ∃ inf, Tryz.prog.info? 44 = some inf ∧ inf.size = 4 := by
    have h := size_File
    cases hx : Tryz.prog.info? 44 with
    | none => rw [hx] at h; cases h
    | some inf => rw [hx] at h; exact ⟨inf, rfl, by simpa using h⟩
  obtain ⟨inf, hinf, hsz⟩ := hi2
  have hu : Tryz.prog.underlying 32 = some (.slice 44) := by kernel_rfl
  have hlen : ((cs.toList.take (n * 4)).drop ((i + 1) * 4)).length = (n - (i + 1)) * 4 := by simp; omega
  have h := run_append_room_cells (P := Tryz.prog) w 32 ty 44 inf hu hinf g 0 i c ⟨g, o', none⟩ (n - (i + 1)) c' ((cs.toList.take (n * 4)).drop ((i + 1) * 4)) (by rw [hsz, hlen]) (fun j u hj => by
      have hjl : j < (n - (i + 1)) * 4 := by have := (List.getElem?_eq_some_iff.1 hj).1; omega
      obtain rfl : o' = (i + 1) * 4 := by rcases ho with h | h; exact h; omega
      rw [Addr.add_lit, cell_of (w := w) (cs := cs) (t := 44), ← hj, List.getElem?_drop, List.getElem?_take_of_lt (by omega), Array.getElem?_toList]) h1 (by omega) (fun j hj => by
      rw [hlen] at hj
      rw [cell_of (w := w) (cs := cs) (t := 44), hsz, Array.getElem?_eq_getElem (by omega)]; rfl) (fun j hj => frozen_of (w := w) (cs := cs) (t := 44))
  rw [hsz, Nat.zero_add, show i + (n - (i + 1)) = n - 1 by omega] at h
  exact h
set_option maxRecDepth 4000 in
set_option maxHeartbeats 4000000 in
theorem deleteF_spec (i : Nat) (A : Option Addr) (n c : Nat) (xs : List Value) (hi : i < n) (hn : n ≤ 1000000000) (h1 : ∀ v ∈ xs, v.oneCell' = true) (w w0 : World) (F : Asn) (m : Mod w w0 (rowA 44 4 (.slice A n c) n xs * F)) :
    Calls Tryz.prog 78 #[.slice A n c, .int .i64 (i : Int), .int .i64 ((i + 1 : Nat) : Int)] w fun e w' => e = .returned (.slice A (n - 1) c) ∧ Mod w' w0 (rowA 44 4 (.slice A (n - 1) c) (n - 1) (xs.take (i * 4) ++ xs.drop ((i + 1) * 4)) * F) := by
  obtain ⟨g, cs, rfl, hnc, hcm, hxl, hcs, htk, m1⟩ := row_open_n m (by omega)
  have happ := fun (q : Nat) (c' o' : Nat) (ho : o' = (i + 1) * 4 ∨ n = i + 1) (ty : TypeId) => run_appF (w := w.drewN q) (m := Mod.drewN q (m := m1)) (c' := c') (o' := o') hi ho hnc (by omega) (by rw [htk]; exact fun v hv => h1 v (List.drop_subset _ _ hv)) ty
  rw [htk] at happ
  obtain ⟨news, hnews⟩ : ∃ news, xs.drop ((i + 1) * 4) = news := ⟨_, rfl⟩
  have hnl : news.length = (n - (i + 1)) * 4 := by rw [← hnews, List.length_drop, hxl]; omega
  rw [hnews] at happ ⊢
  have Hnews := Lib.hid hnews
  clear hnews m
  have e1 : (i : Int) ≤ ((i + 1 : Nat) : Int) := by omega
  have e2 : ((i + 1 : Nat) : Int) ≤ (n : Int) := by omega
  have e3 : (n : Int) ≤ (c : Int) := by omega
  have e4 : ¬ (i : Int) = ((i + 1 : Nat) : Int) := by omega
  by_cases hcap : c = i + 1
  · subst hcap
    go_enter Tryz.func78, Tryz.ntmps78
    go_wp2_with fail
    refine wp_region_quiet_tail (C := fun w' => ∃ q : Nat, w' = w.drewN q) 6 (by kernel_rfl) (by kernel_rfl) ⟨1, rfl⟩ ?_
    simp only [List.take_succ_cons, List.take_zero, List.drop_succ_cons, List.drop_zero]
    repeat (go_big_quiet_step (fail))
    refine wpQuiet_nil ?_
    rintro w3 ⟨q, rfl⟩
    have happ2 := Lib.hid (happ q)
    clear happ
    have m2 : Mod ((w.drewN q).setCells g (i * 4) news) w0 _ := setCells_mod news (i * 4) cs (w.drewN q) (Mod.drewN q (m := m1))
    have hm2 : (Sort.setMany cs (i * 4) news).size = (i + 1) * 4 := by rw [Sort.size_setMany, hcs]
    have hclr := fun (o c' : Nat) (ho : o = (n - 1) * 4) (ty : TypeId) => run_clearF (c := c') (o := o) m2 (by rw [hm2]; omega) ty
    have Hclr := Lib.hid hclr
    clear hclr
    have H3 : Hid (Mod (((w.drewN q).setCells g (i * 4) news).setCells g ((n - 1) * 4) noFile) w0 (rowA 44 4 (.slice (some ⟨g, 0, none⟩) (n - 1) (i + 1)) (n - 1) (xs.take (i * 4) ++ news) * F)) := by
      have m3 := setCells_mod noFile ((n - 1) * 4) _ _ m2
      have l4 : noFile.length = 4 := rfl
      have z1 : (Sort.setMany (Sort.setMany cs (i * 4) news) ((n - 1) * 4) noFile).size = (i + 1) * 4 := by rw [Sort.size_setMany, hm2]
      refine row_shut_n m3 (by omega) hcm z1 ?_ ?_
      · rw [List.length_append, hnl, List.length_take, hxl]; omega
      · apply List.ext_getElem?
        intro t
        by_cases ht : t < (n - 1) * 4
        · rw [List.getElem?_take_of_lt ht, Array.getElem?_toList, setMany_get? _ _ _ (by rw [hm2, l4]; omega), if_neg (by omega), setMany_get? _ _ _ (by omega)]
          by_cases h2 : t < i * 4
          · rw [if_neg (by omega), List.getElem?_append_left (by rw [List.length_take]; omega), List.getElem?_take_of_lt h2, ← htk, List.getElem?_take_of_lt (by omega), Array.getElem?_toList]
          · rw [if_pos (by omega), List.getElem?_append_right (by rw [List.length_take]; omega), List.length_take, show min (i * 4) xs.length = i * 4 by omega]
        · rw [List.getElem?_eq_none (by rw [List.length_take]; omega), List.getElem?_eq_none (by rw [List.length_append, hnl, List.length_take]; omega)]
    clear m2
    have o1 := fun ty => happ2.out 0 0 (.inr (by omega)) ty
    simp only [show n - (i + 1) = 0 by omega] at o1
    have O1 := Lib.hid o1
    clear o1 happ2
    go_wp2_with (at_builtin; refine Hid.out ?_)
    refine Lib.hid ?_
    refine wpList_append_run rfl rfl rfl rfl (O1.out _) ?_
    clear O1
    go_wp2_with (at_builtin; refine Hid.out ?_)
    refine Lib.hid ?_
    first
      | rw [show n - (n - 1) = 1 by omega, Hclr.out _ _ rfl _]
      | rw [Hclr.out _ _ rfl _]
    simp only [Result.andThen_ok]
    clear Hclr
    go_wp2_with fail
    go_ret
    refine ⟨rfl, ?_⟩
    exact H3.out
  · have hcap2 : c - (i + 1) ≠ 0 := by omega
    go_enter Tryz.func78, Tryz.ntmps78
    go_wp2_with fail
    refine wp_region_quiet_tail (C := fun w' => ∃ q : Nat, w' = w.drewN q) 6 (by kernel_rfl) (by kernel_rfl) ⟨1, rfl⟩ ?_
    simp only [List.take_succ_cons, List.take_zero, List.drop_succ_cons, List.drop_zero]
    repeat (go_big_quiet_step (fail))
    refine wpQuiet_nil ?_
    rintro w3 ⟨q, rfl⟩
    have happ2 := Lib.hid (happ q)
    clear happ
    have m2 : Mod ((w.drewN q).setCells g (i * 4) news) w0 _ := setCells_mod news (i * 4) cs (w.drewN q) (Mod.drewN q (m := m1))
    have hm2 : (Sort.setMany cs (i * 4) news).size = c * 4 := by rw [Sort.size_setMany, hcs]
    have hclr := fun (o c' : Nat) (ho : o = (n - 1) * 4) (ty : TypeId) => run_clearF (c := c') (o := o) m2 (by rw [hm2]; omega) ty
    have Hclr := Lib.hid hclr
    clear hclr
    have H3 : Hid (Mod (((w.drewN q).setCells g (i * 4) news).setCells g ((n - 1) * 4) noFile) w0 (rowA 44 4 (.slice (some ⟨g, 0, none⟩) (n - 1) c) (n - 1) (xs.take (i * 4) ++ news) * F)) := by
      have m3 := setCells_mod noFile ((n - 1) * 4) _ _ m2
      have l4 : noFile.length = 4 := rfl
      have z1 : (Sort.setMany (Sort.setMany cs (i * 4) news) ((n - 1) * 4) noFile).size = c * 4 := by rw [Sort.size_setMany, hm2]
      refine row_shut_n m3 (by omega) hcm z1 ?_ ?_
      · rw [List.length_append, hnl, List.length_take, hxl]; omega
      · apply List.ext_getElem?
        intro t
        by_cases ht : t < (n - 1) * 4
        · rw [List.getElem?_take_of_lt ht, Array.getElem?_toList, setMany_get? _ _ _ (by rw [hm2, l4]; omega), if_neg (by omega), setMany_get? _ _ _ (by omega)]
          by_cases h2 : t < i * 4
          · rw [if_neg (by omega), List.getElem?_append_left (by rw [List.length_take]; omega), List.getElem?_take_of_lt h2, ← htk, List.getElem?_take_of_lt (by omega), Array.getElem?_toList]
          · rw [if_pos (by omega), List.getElem?_append_right (by rw [List.length_take]; omega), List.length_take, show min (i * 4) xs.length = i * 4 by omega]
        · rw [List.getElem?_eq_none (by rw [List.length_take]; omega), List.getElem?_eq_none (by rw [List.length_append, hnl, List.length_take]; omega)]
    clear m2
    have o1 := fun ty => happ2.out (c - (i + 1)) ((i + 1) * 4) (.inl rfl) ty
    have O1 := Lib.hid o1
    clear o1 happ2
    go_wp2_with (at_builtin; refine Hid.out ?_)
    refine Lib.hid ?_
    refine wpList_append_run rfl rfl rfl rfl (O1.out _) ?_
    clear O1
    go_wp2_with (at_builtin; refine Hid.out ?_)
    refine Lib.hid ?_
    first
      | rw [show n - (n - 1) = 1 by omega, Hclr.out _ _ rfl _]
      | rw [Hclr.out _ _ rfl _]
    simp only [Result.andThen_ok]
    clear Hclr
    go_wp2_with fail
    go_ret
    refine ⟨rfl, ?_⟩
    exact H3.out
end Go.Proofs.YtmhlebpchllpbaaGreatDoor
namespace Go.Proofs.YtmhlebpchllpbaaGreatDoor
open Go.RowKit Go.Sl
attribute [local go_sem] cell_of cellAt_of frozen_of zero_names
theorem cells_one (l : List FileV) : ∀ v ∈ l.flatMap FileV.cells, v.oneCell' = true := by
  intro v hv
  obtain ⟨f, _, hf⟩ := List.mem_flatMap.1 hv
  simp [FileV.cells] at hf
  rcases hf with rfl | rfl | rfl | rfl <;> rfl
set_option maxRecDepth 8000 in
set_option maxHeartbeats 2000000 in
theorem cloneF_spec (A : Option Addr) (n c : Nat) (l : List FileV) (w w0 : World) (S : Asn) (m : Mod w w0 S) (r : ReadsFiles S A n l) (hn : n ≤ 100000000) :
    Calls Tryz.prog 29 #[.slice A n c] w fun e w' => ∃ A' c', e = .returned (.slice A' n c') ∧ Mod w' w0 (rowA 44 4 (.slice A' n c') n (l.flatMap FileV.cells) * S) := by
  have R := Lib.hid r
  have hu : Tryz.prog.underlying 32 = some (.slice 44) := by kernel_rfl
  have heq := fun (w : World) => Lib.run_eql_slice_nil (P := Tryz.prog) w 32 44 A n c 0 0 hu
  clear hu
  cases A with
  | none =>
    have h0 : n = 0 := by
      rcases Nat.eq_zero_or_pos n with h | h
      · exact h
      · obtain ⟨b, o, hb⟩ := files_some m r h
        cases hb
    subst h0
    have hl : l = [] := List.eq_nil_of_length_eq_zero r.len
    subst hl
    clear r
    go_enter Tryz.func29, Tryz.ntmps29
    go_wp2_with fail
    go_ret
    exact ⟨none, 0, rfl, ⟨m.os, m.tape, m.output, by rw [sep_assoc]; exact ⟨_, _, Hp.none_apart _, (Hp.join_none _).symm, rowA_nil _ _, m.says⟩⟩⟩
  | some ad =>
    clear r
    obtain ⟨g, hg⟩ : ∃ g, w.heap.size = g := ⟨_, rfl⟩
    have m1 : Mod (w.alloc (.cells #[] 44)) w0 (Go.Sl.blk w.heap.size (.cells #[] 44 (0, 0)) * S) := Mod.alloc (m := m) _
    rw [hg] at m1
    have m2 := row_shut_n (size := 4) (n := 0) (c := 0) (xs := []) m1 (Nat.le_refl _) (by unfold maxLen; omega) rfl rfl rfl
    have H2 := Lib.hid m2
    clear m1 m2
    go_enter Tryz.func29, Tryz.ntmps29
    go_wp2_with (at_builtin; refine Hid.out ?_)
    refine Lib.hid ?_
    refine wpList_append_k (n := 0) (xs := []) (k := n) (c := c) (A := some ad) rfl rfl H2.out rfl rfl R.out.cells (cells_one l) (by unfold maxLen; omega) (by show (0 + n) * 48 ≤ _; omega) ?_
    intro A' c' w' m3
    go_wp2_with fail
    go_ret
    rw [Nat.zero_add] at m3
    exact ⟨A', c', rfl, m3⟩
end Go.Proofs.YtmhlebpchllpbaaGreatDoor
namespace Go.Proofs.YtmhlebpchllpbaaGreatDoor
open Go.RowKit Go.Sl
set_option maxRecDepth 8000 in
set_option maxHeartbeats 2000000 in
theorem clipF_spec (A : Option Addr) (n c : Nat) (hs : ∀ ad, A = some ad → ad.spot = none) (hA : A = none → n = 0 ∧ c = 0) (hn : n ≤ c) (hc : c ≤ maxLen) (w : World) :
    Calls Tryz.prog 28 #[.slice A n c] w fun e w' => e = .returned (.slice A n n) ∧ w' = w := by
  have e1 : (n : Int) ≤ (c : Int) := by omega
  cases A with
  | none =>
    obtain ⟨rfl, rfl⟩ := hA rfl
    go_enter Tryz.func28, Tryz.ntmps28
    go_wp2_with fail
    go_ret
    exact ⟨rfl, rfl⟩
  | some ad =>
    obtain ⟨g, o, sp⟩ := ad
    have h := hs _ rfl
    simp only at h
    subst h
    clear hs hA
    go_enter Tryz.func28, Tryz.ntmps28
    go_wp2_with fail
    go_ret
    exact ⟨rfl, rfl⟩
end Go.Proofs.YtmhlebpchllpbaaGreatDoor
namespace Go.Proofs.YtmhlebpchllpbaaGreatDoor
open Go.RowKit Go.Sl Go.Sort Go.Shelf Go.Lib
theorem files_len (l : List FileV) : (l.flatMap FileV.cells).length = l.length * 4 := by
  induction l with
  | nil => rfl
  | cons x l ih => rw [List.flatMap_cons, List.length_append, ih]; simp [FileV.cells]; omega
theorem sortF_row (A : Option Addr) (n c : Nat) (l : List FileV) (hl : l.length = n) (hn : n ≤ 1000000000) (w w0 : World) (F : Asn) (m : Mod w w0 (rowA 44 4 (.slice A n c) n (l.flatMap FileV.cells) * F)) :
    Calls Tryz.prog 79 #[.slice A n c, .func (.func 80) #[] #[]] w fun e w' => e = .returned (.tuple #[]) ∧ ∃ l' : List FileV, l'.Perm l ∧ sortedF l' ∧ Mod w' w0 (rowA 44 4 (.slice A n c) n (l'.flatMap FileV.cells) * F) := by
  subst hl
  rcases Nat.eq_zero_or_pos l.length with h | h
  · have h2 := List.eq_nil_of_length_eq_zero h
    subst h2
    refine Calls.mono (AnyF.slices_SortFunc_none Tryz.sortF A c (.func (.func 80) #[] #[]) w) ?_
    rintro e w' ⟨rfl, rfl⟩
    exact ⟨rfl, [], List.Perm.refl _, List.Pairwise.nil, m⟩
  · obtain ⟨g, cs, rfl, h1, h2, h3, h4, h5, m1⟩ := row_open_n m h
    refine (sortF_some g c l cs (by omega) h5 hn w w0 F m1).mono ?_
    rintro e w' ⟨rfl, l', cs', hp, hs, hsz, htk, m2⟩
    have hl2 := hp.length_eq
    exact ⟨rfl, l', hp, hs, row_shut_n m2 h1 h2 (by rw [hsz, h4]) (by rw [files_len, hl2]) htk⟩
end Go.Proofs.YtmhlebpchllpbaaGreatDoor
namespace Go.Proofs.YtmhlebpchllpbaaGreatDoor
open Go.RowKit Go.Sl
attribute [local go_sem] cell_of cellAt_of frozen_of zero_names
def DoSays (S : Asn) (w0 : World) (e : Ending) (w' : World) : Option (List FileV) → Prop
  | none => e = .returned (.tuple #[.slice none 0 0, .int .i64 1]) ∧ Mod w' w0 S
  | some l => ∃ A c, e = .returned (.tuple #[.slice A l.length l.length, .int .i64 0]) ∧ l.length ≤ c ∧ Mod w' w0 (rowA 44 4 (.slice A l.length c) l.length (l.flatMap FileV.cells) * S)
theorem row_shape {w w0 : World} {e size : Nat} {A : Option Addr} {n c : Nat} {xs : List Value} {F : Asn} (m : Mod w w0 (rowA e size (.slice A n c) n xs * F)) : (∀ ad, A = some ad → ad.spot = none) ∧ (A = none → n = 0 ∧ c = 0) ∧ n ≤ c ∧ c ≤ maxLen := by
  have h := m.says
  rw [sep_assoc] at h
  obtain ⟨a, b, h1, h2, ⟨hl, h3⟩, h4⟩ := h
  rcases h3 with ⟨hv, h0, _⟩ | ⟨g, cap, cur, hv, k1, k2, _⟩
  · injection hv with a1 a2 a3
    subst a1 a2 a3
    exact ⟨fun ad h => (by cases h), fun _ => ⟨rfl, rfl⟩, Nat.le_refl _, by unfold maxLen; omega⟩
  · injection hv with a1 a2 a3
    subst a1 a3
    exact ⟨fun ad h => (by injection h with h; subst h; rfl), fun h => (by cases h), k1, k2⟩
theorem erase_cells : ∀ (l : List FileV) (k : Nat), k < l.length → (l.flatMap FileV.cells).take (k * 4) ++ (l.flatMap FileV.cells).drop ((k + 1) * 4) = (l.eraseIdx k).flatMap FileV.cells
  | [], _, h => by simp at h
  | x :: l, 0, _ => by
    have e : x.cells.length = 4 := rfl
    rw [List.flatMap_cons, List.drop_append]
    simp [e]
  | x :: l, k + 1, h => by
    have e : x.cells.length = 4 := rfl
    have ih := erase_cells l k (by simpa using h)
    rw [List.flatMap_cons, List.eraseIdx_cons_succ, List.flatMap_cons, ← ih, List.take_append, List.drop_append, e, List.take_of_length_le (by rw [e]; omega), List.drop_eq_nil_of_le (by rw [e]; omega), show (k + 1) * 4 - 4 = k * 4 by omega, show (k + 1 + 1) * 4 - 4 = (k + 1) * 4 by omega, List.nil_append, List.append_assoc]
theorem deleteF_int (i : Nat) (z : Int) (hz : z = ((i + 1 : Nat) : Int)) (A : Option Addr) (n c : Nat) (xs : List Value) (hi : i < n) (hn : n ≤ 1000000000) (h1 : ∀ v ∈ xs, v.oneCell' = true) (w w0 : World) (F : Asn) (m : Mod w w0 (rowA 44 4 (.slice A n c) n xs * F)) :
    Calls Tryz.prog 78 #[.slice A n c, .int .i64 (i : Int), .int .i64 z] w fun e w' => e = .returned (.slice A (n - 1) c) ∧ Mod w' w0 (rowA 44 4 (.slice A (n - 1) c) (n - 1) (xs.take (i * 4) ++ xs.drop ((i + 1) * 4)) * F) := by
  subst hz
  exact deleteF_spec i A n c xs hi hn h1 w w0 F m
set_option maxRecDepth 8000 in
set_option maxHeartbeats 8000000 in
theorem eDo_spec (A : Option Addr) (n c : Nat) (l : List FileV) (aA : Option Addr) (na aC : Nat) (rA : Option Addr) (nr rC : Nat) (fa : List FileV) (rm : List Nat) (jn nx sq : Nat) (w w0 : World) (S : Asn) (m : Mod w w0 S) (r : ReadsFiles S A n l) (hn : n ≤ 100000000) (ra : ReadsFiles S aA na fa) (hna : na ≤ 1100000) (rr : ReadsNums S rA nr rm) (hnr : nr ≤ 1100000) :
    Calls Tryz.prog 31 #[.slice A n c, .agg #[.slice aA na aC, .slice rA nr rC, .int .u32 (jn : Int), .int .u32 (nx : Int), .int .u64 (sq : Int)]] w fun e w' => DoSays S w0 e w' (doE l ⟨fa, rm, jn, nx, sq⟩) := by
  obtain ⟨z, hz⟩ : ∃ z, doE l ⟨fa, rm, jn, nx, sq⟩ = z := ⟨_, rfl⟩
  rw [hz]
  unfold doE at hz
  simp only at hz
  have HZ := Lib.hid hz
  have R := Lib.hid r
  have RA := Lib.hid ra
  have RR := Lib.hid rr
  clear hz r ra rr
  have HF := Lib.hid (fun (u : World) (FF : Asn) (hh : Sub FF S) (mu : Mod u w0 FF) => efine_spec A n c l u w0 FF mu (R.out.lift hh) (by omega))
  have HA := Lib.hid (fun (u : World) (FF : Asn) (hh : Sub FF S) (mu : Mod u w0 FF) => efine_spec aA na aC fa u w0 FF mu (RA.out.lift hh) (by omega))
  have HT := Lib.hid (fun (u : World) (FF : Asn) (hh : Sub FF S) (mu : Mod u w0 FF) => etwice_spec A n c l u w0 FF mu (R.out.lift hh) (by omega))
  have HC := Lib.hid (fun (u : World) (FF : Asn) (hh : Sub FF S) (mu : Mod u w0 FF) => cloneF_spec A n c l u w0 FF mu (R.out.lift hh) (by omega))
  have mA : Mod (w.alloc (.cells #[.slice aA na aC, .slice rA nr rC, .int .u32 (jn : Int), .int .u32 (nx : Int), .int .u64 (sq : Int)] 39)) w0 _ := Mod.alloc (m := m) _
  cases h1 : fineF l with
  | false =>
    have Hz2 : Hid (z = none) := by show _ = _; rw [← HZ.out, if_pos (.inl h1)]
    rw [h1] at HF
    clear h1
    go_enter Tryz.func31, Tryz.ntmps31
    go_wp2_with (go_at_call 68; refine (HF.out _ _ inferInstance mA).mono ?_; rintro e w1 ⟨rfl, m1⟩)
    go_ret2
    rw [Hz2.out]
    exact ⟨rfl, Mod.keep m1⟩
  | true =>
    rw [h1] at HF
    cases h2 : fineF fa with
    | false =>
      have Hz2 : Hid (z = none) := by show _ = _; rw [← HZ.out, if_pos (.inr (.inl h2))]
      rw [h2] at HA
      clear h1 h2
      go_enter Tryz.func31, Tryz.ntmps31
      have flag := True.intro
      go_wp2_with first
        | (go_at_call 68; clear flag; refine (HF.out _ _ inferInstance mA).mono ?_; rintro e w1 ⟨rfl, m1⟩)
        | (go_at_call 68; refine (HA.out _ _ inferInstance m1).mono ?_; rintro e w2 ⟨rfl, m2⟩)
      go_ret2
      rw [Hz2.out]
      exact ⟨rfl, Mod.keep m2⟩
    | true =>
      rw [h2] at HA
      cases h3 : twiceF l with
      | true =>
        have Hz2 : Hid (z = none) := by show _ = _; rw [← HZ.out, if_pos (.inr (.inr h3))]
        rw [h3] at HT
        clear h1 h2 h3
        go_enter Tryz.func31, Tryz.ntmps31
        have flag := True.intro
        go_wp2_with first
          | (go_at_call 68; clear flag; refine (HF.out _ _ inferInstance mA).mono ?_; rintro e w1 ⟨rfl, m1⟩)
          | (go_at_call 68; refine (HA.out _ _ inferInstance m1).mono ?_; rintro e w2 ⟨rfl, m2⟩)
          | (go_at_call 75; refine (HT.out _ _ inferInstance m2).mono ?_; rintro e w3 ⟨rfl, m3⟩)
        go_ret2
        rw [Hz2.out]
        exact ⟨rfl, Mod.keep m3⟩
      | false =>
        rw [h3] at HT
        have Hz4 : Hid (z = match dropNums l rm with | none => none | some l1 => if twiceF (l1 ++ fa) = true then none else some (sortFiles (l1 ++ fa))) := by
          show _ = _; rw [← HZ.out, if_neg (by rw [h1, h2, h3]; simp)]; first | done | (cases dropNums l rm <;> rfl)
        clear HZ h1 h2 h3
        obtain ⟨gx, hgx⟩ : ∃ gx, w.heap.size = gx := ⟨_, rfl⟩
        rw [hgx] at mA
        go_enter Tryz.func31, Tryz.ntmps31
        have flag := True.intro
        go_wp2_with first
          | (go_at_call 68; clear flag; refine (HF.out _ _ inferInstance mA).mono ?_; rintro e w1 ⟨rfl, m1⟩)
          | (go_at_call 68; refine (HA.out _ _ inferInstance m1).mono ?_; rintro e w2 ⟨rfl, m2⟩)
          | (go_at_call 75; refine (HT.out _ _ inferInstance m2).mono ?_; rintro e w3 ⟨rfl, m3⟩)
          | (go_at_call 29; refine (HC.out _ _ inferInstance m3).mono ?_; rintro e w4 ⟨A4, c4, rfl, m4⟩)
        have Hgx := Lib.hid hgx
        clear hgx HF HA HT HC m1 m2 m3
        go_loopg [0, 27] nr (fun gk v0 iv wr => ∃ (i : Nat) (Ai : Option Addr) (ni ci : Nat) (li : List FileV), i ≤ nr ∧ gk = nr - i ∧ iv = .int .i64 (i : Int) ∧ v0 = .slice Ai ni ci ∧ ni ≤ n ∧ Hid (li.length = ni) ∧ Hid (dropNums l rm = dropNums li (rm.drop i)) ∧ Mod wr w0 (rowA 44 4 (.slice Ai ni ci) ni (li.flatMap FileV.cells) * (Go.Sl.blk gx (.cells #[.slice aA na aC, .slice rA nr rC, .int .u32 (jn : Int), .int .u32 (nx : Int), .int .u64 (sq : Int)] 39 (0, 0)) * S)))
        case atStart => exact ⟨0, A4, n, c4, l, Nat.zero_le _, rfl, rfl, rfl, Nat.le_refl _, R.out.len, rfl, m4⟩
        case round =>
          obtain ⟨i, Ai, ni, ci, li, hi, hgk, rfl, rfl, hni, Hl, Hd, m5⟩ := hrel
          by_cases hlt : i < nr
          · have hii : (i : Int) < (nr : Int) := by omega
            have hil : i < rm.length := by rw [RR.out.len]; exact hlt
            obtain ⟨b, o, rfl⟩ := nums_some m5 (RR.out.lift inferInstance) hlt
            have c0 := num_at RR.out hil
            have hdr : rm.drop i = rm[i] :: rm.drop (i + 1) := List.drop_eq_getElem_cons hil
            generalize rm[i] = v at *
            have Hdr := Lib.hid hdr
            clear hdr
            have rf : ReadsFiles (rowA 44 4 (.slice Ai ni ci) ni (li.flatMap FileV.cells)) Ai ni li := ⟨Hl.out, reads_rown (by decide)⟩
            have HI := Lib.hid (fun (u : World) (FF : Asn) (mu : Mod u w0 FF) (p : Nat) (hp : Has FF p (.cells #[.int .u32 (v : Int)] 36 (0, 0))) (sb : Sub FF (rowA 44 4 (.slice Ai ni ci) ni (li.flatMap FileV.cells))) => indexNum_spec p v Ai ni ci li u w0 FF mu hp (rf.lift sb) (by omega))
            clear rf
            cases hix : li.findIdx? (fun f => decide (f.num = v)) with
            | none =>
              have hio : indexOf (fun f => decide (f.num = v)) li = -1 := by unfold indexOf; rw [hix]
              have Hz5 : Hid (z = none) := by
                show _ = _
                rw [Hz4.out, Hd.out, Hdr.out]
                simp only [dropNums, hix]
              rw [hio] at HI
              clear hio hix
              go_wp2_with (go_at_call 76; refine (HI.out _ _ (Mod.alloc (m := m5) _) _ inferInstance inferInstance).mono ?_; rintro e w6 ⟨rfl, m6⟩)
              (try rw [Exit.noGoto_ret])
              go_ret2
              rw [Hz5.out]
              exact ⟨rfl, Mod.keep m6⟩
            | some k =>
              have hio : indexOf (fun f => decide (f.num = v)) li = (k : Int) := by unfold indexOf; rw [hix]
              have hk : k < ni := by rw [← Hl.out]; exact (List.findIdx?_eq_some_iff_getElem.1 hix).1
              have Hd2 : Hid (dropNums l rm = dropNums (li.eraseIdx k) (rm.drop (i + 1))) := by
                show _ = _
                rw [Hd.out, Hdr.out]
                simp only [dropNums, hix]
              have Hl2 : Hid ((li.eraseIdx k).length = ni - 1) := by show _ = _; rw [List.length_eraseIdx, if_pos (by rw [Hl.out]; exact hk), Hl.out]
              have Hce := Lib.hid (erase_cells li k (by rw [Hl.out]; exact hk))
              have Hon := Lib.hid (cells_one li)
              have hk0 : ¬ (k : Int) < 0 := by omega
              rw [hio] at HI
              clear hio hix
              have flag := True.intro
              go_wp2_with first
                | (go_at_call 76; clear flag; refine (HI.out _ _ (Mod.alloc (m := m5) _) _ inferInstance inferInstance).mono ?_; rintro e w6 ⟨rfl, m6⟩)
                | (go_at_call 78; refine (deleteF_int k _ (by omega) Ai ni ci _ hk (by omega) Hon.out _ w0 _ (Mod.pull (m := m6) (rowA 44 4 (.slice Ai ni ci) ni (li.flatMap FileV.cells)))).mono ?_; rintro e w7 ⟨rfl, m7⟩)
              rw [Hce.out] at m7
              go_roundg (nr - (i + 1))
              case measure => omega
              case rel => exact ⟨i + 1, Ai, ni - 1, ci, li.eraseIdx k, hlt, rfl, by go_num, rfl, by omega, Hl2, Hd2, Mod.keep m7⟩
          · have hii : ¬ (i : Int) < (nr : Int) := by omega
            have Hz5 : Hid (z = if twiceF (li ++ fa) = true then none else some (sortFiles (li ++ fa))) := by
              show _ = _
              rw [Hz4.out, Hd.out, List.drop_eq_nil_of_le (by have := RR.out.len; omega)]
              rfl
            have RA2 : Reads (Go.Sl.blk gx (.cells #[.slice aA na aC, .slice rA nr rC, .int .u32 (jn : Int), .int .u32 (nx : Int), .int .u64 (sq : Int)] 39 (0, 0)) * S) aA (na * 4) (fa.flatMap FileV.cells) := reads_lift inferInstance RA.out.cells
            have HRA := Lib.hid RA2
            clear RA2
            go_wp2_with (at_builtin; refine Hid.out ?_)
            refine Lib.hid ?_
            refine wpList_append_k (n := ni) (k := na) (c := aC) (A := aA) rfl rfl m5 rfl rfl HRA.out (cells_one fa) (by unfold maxLen; omega) (by show (ni + na) * 48 ≤ _; omega) ?_
            intro A7 c7 w7 m7
            rw [← List.flatMap_append] at m7
            have hl7 : (li ++ fa).length = ni + na := by rw [List.length_append, Hl.out, RA.out.len]
            obtain ⟨p1, p2, p3, p4⟩ := row_shape m7
            obtain ⟨q, hq⟩ : ∃ q, ni + na = q := ⟨_, rfl⟩
            rw [hq] at m7 hl7 p2 p3 ⊢
            have hqm : q ≤ 200000000 := by omega
            have Hl7 := Lib.hid hl7
            clear hq hl7
            have HT2 := Lib.hid (fun (u : World) (FF : Asn) (mu : Mod u w0 FF) (sb : Sub FF (rowA 44 4 (.slice A7 q c7) q ((li ++ fa).flatMap FileV.cells))) => etwice_spec A7 q c7 (li ++ fa) u w0 FF mu ⟨Hl7.out, reads_lift sb (reads_rown (by decide))⟩ (by omega))
            cases ht : twiceF (li ++ fa) with
            | true =>
              rw [ht] at HT2
              have Hz6 : Hid (z = none) := by show _ = _; rw [Hz5.out, if_pos ht]
              clear ht
              go_wp2_with (go_at_call 75; refine (HT2.out _ _ m7 inferInstance).mono ?_; rintro e w8 ⟨rfl, m8⟩)
              go_ret2
              rw [Hz6.out]
              exact ⟨rfl, Mod.keep m8⟩
            | false =>
              rw [ht] at HT2
              have Hz6 : Hid (z = some (sortFiles (li ++ fa))) := by show _ = _; rw [Hz5.out, if_neg (by rw [ht]; decide)]
              have Ht := Lib.hid ht
              clear ht
              go_wp2_with first
                | (go_at_call 75; refine (HT2.out _ _ m7 inferInstance).mono ?_; rintro e w8 ⟨rfl, m8⟩)
                | (go_at_call 79; refine (sortF_row A7 q c7 (li ++ fa) Hl7.out (by omega) _ w0 _ m8).mono ?_; rintro e w9 ⟨rfl, l9, hp9, hs9, m9⟩; have H9 := Lib.hid (sorted_one hp9 hs9 Ht.out); clear hp9 hs9)
                | (go_at_call 28; refine (clipF_spec A7 q c7 p1 p2 p3 p4 _).mono ?_; rintro e w10 ⟨rfl, rfl⟩)
              go_ret2
              have hlq : (sortFiles (li ++ fa)).length = q := by rw [← Hl7.out]; exact (List.mergeSort_perm _ _).length_eq
              rw [Hz6.out]
              rw [H9.out] at m9
              refine ⟨A7, c7, ?_, ?_, ?_⟩
              · rw [hlq]; rfl
              · rw [hlq]; exact p3
              · rw [hlq]; exact Mod.keep m9
end Go.Proofs.YtmhlebpchllpbaaGreatDoor
namespace Go.Proofs.YtmhlebpchllpbaaGreatDoor
open Go.RowKit Go.Sl
attribute [local go_sem] cell_of cellAt_of frozen_of zero_names
set_option maxHeartbeats 8000000 in
theorem sameFiles_spec (A B : Option Addr) (n cA cB : Nat) (l : List FileV) (w w0 : World) (S : Asn) (m : Mod w w0 S) (r1 : ReadsFiles S A n l) (r2 : ReadsFiles S B n l) (hn : n ≤ 100000000) :
    Calls Tryz.prog 10 #[.slice A n cA, .slice B n cB] w fun e w' => e = .returned (.bool true) ∧ Mod w' w0 S := by
  have R1 := Lib.hid r1
  have R2 := Lib.hid r2
  clear r1 r2
  go_enter Tryz.func10, Tryz.ntmps10
  go_wp2_with fail
  go_loopg [5] n (fun gk iv wr => ∃ i : Nat, i ≤ n ∧ gk = n - i ∧ iv = .int .i64 (i : Int) ∧ Mod wr w0 S)
  case atStart => exact ⟨0, Nat.zero_le _, rfl, rfl, m⟩
  case round =>
    obtain ⟨i, hi, hgk, rfl, m1⟩ := hrel
    by_cases hlt : i < n
    · have hii : (i : Int) < (n : Int) := by omega
      have hil : i < l.length := by rw [R1.out.len]; exact hlt
      obtain ⟨b, o, rfl⟩ := files_some m1 R1.out hlt
      obtain ⟨b2, o2, rfl⟩ := files_some m1 R2.out hlt
      obtain ⟨c0, c1, c2, c3⟩ := file_at R1.out hil
      obtain ⟨d0, d1, d2, d3⟩ := file_at R2.out hil
      generalize l[i] = f at *
      clear hil
      obtain ⟨num, lv, a, z⟩ := f
      simp only at c0 c1 c2 c3 d0 d1 d2 d3
      have h0 : (0 : Int) ≤ (i : Int) := by omega
      go_wp2_with fail
      go_quiet (fail)
      go_wp2_with fail
      go_roundg (n - (i + 1))
      case measure => omega
      case rel => exact ⟨i + 1, hlt, rfl, by go_num, inferInstance⟩
    · have hii : ¬ (i : Int) < (n : Int) := by omega
      go_wp2_with fail
      go_ret
      exact ⟨rfl, m1⟩
end Go.Proofs.YtmhlebpchllpbaaGreatDoor
