/- The walks of package sums: contracts over the small separation logic; the conditions are in each theorem. -/
import Derived.Test.YtmpgnnjhgjfgaaaDoorLeft
import Derived.Test.YtmpgnnjhgjfgaaaDoorCrc
import Derived.Deep.LoopGhost
import Derived.Deep.QuietTactic
import Derived.BigQuiet
import Derived.Laws.BitsAllLaws
import Derived.Deep.MidRow
namespace Go.Proofs.YtmpgnnjhgjfgaaaDoor
open Go.RowKit Go.Sl
attribute [local go_sem] cell_of frozen_of zero_names
def tabCells (k : Nat) : Array Value := ((List.range 256).map fun i => if i < k then Value.int .u32 ((crcTab i).toNat : Int) else .int .u32 0).toArray
def tabV : Array Value := tabCells 256
theorem tab_set (k : Nat) (_h : k < 256) : (tabCells k).setIfInBounds k (.int .u32 ((crcTab k).toNat : Int)) = tabCells (k + 1) := by
  unfold tabCells
  apply Array.ext
  · simp
  · intro i h1 h2
    simp only [List.getElem_toArray, List.getElem_map, List.getElem_range]
    by_cases e : k = i
    · subst e; simp
    · have e2 : (i < k + 1) ↔ i < k := by omega
      simp [e, e2]
theorem crcBits_succ : ∀ (k : Nat) (n : BitVec 32), crcBits (k + 1) n = crcBit (crcBits k n)
  | 0, _ => rfl
  | k + 1, n => by
    show crcBits (k + 1) (crcBit n) = crcBit (crcBits k (crcBit n))
    exact crcBits_succ k (crcBit n)
theorem lsb_mod (v : BitVec 32) : v.getLsbD 0 = decide (v.toNat % 2 = 1) := by rw [BitVec.getLsbD, Nat.testBit_zero]
theorem crc_step (v : BitVec 32) : bits .xor .u32 ((v.toNat : Int) / 2) (bits .and .u32 2197175160 (-bits .and .u32 (v.toNat : Int) 1 % 4294967296)) = ((crcBit v).toNat : Int) := by
  have hv := v.isLt
  have h1 : bits .and .u32 (v.toNat : Int) 1 = ((v.toNat % 2 : Nat) : Int) := by
    have := u32_and_nat v.toNat 1 (by omega) (by omega)
    rw [Nat.and_one_is_mod] at this
    exact this
  rw [h1, show ((v.toNat : Int) / 2) = ((v.toNat / 2 : Nat) : Int) from by omega]
  unfold crcBit
  rw [lsb_mod]
  rcases Nat.mod_two_eq_zero_or_one v.toNat with h | h
  · rw [h, show (-((0 : Nat) : Int) % 4294967296) = ((0 : Nat) : Int) from rfl, show (2197175160 : Int) = ((2197175160 : Nat) : Int) from rfl, u32_and_nat 2197175160 0 (by omega) (by omega), u32_xor_nat _ _ (by omega) (by simp)]
    simp [Nat.shiftRight_eq_div_pow]
  · rw [h, show (-((1 : Nat) : Int) % 4294967296) = ((4294967295 : Nat) : Int) from rfl, show (2197175160 : Int) = ((2197175160 : Nat) : Int) from rfl, u32_and_nat 2197175160 4294967295 (by omega) (by omega), show 2197175160 &&& 4294967295 = 2197175160 from by decide, u32_xor_nat _ _ (by omega) (by omega)]
    simp [Nat.shiftRight_eq_div_pow]
set_option maxRecDepth 100000 in
theorem und_tab : Tryd.prog.underlying 107 = some (.array 256 48) := by kernel_rfl
set_option maxRecDepth 100000 in
theorem size_tab : (Tryd.prog.info? 107).map (·.size) = some 256 := by kernel_rfl
theorem load_tab {w w0 : World} {S : Asn} {g : Nat} {cs : Array Value} {fr : Nat × Nat} [m : Mod w w0 S] [h : Has S g (.cells cs 107 fr)] (hs : cs.size = 256) : (Instr.loadAt 107 (.pointer (some ⟨g, 0, none⟩))).run Tryd.prog w = .ok (.agg cs) w := by
  have := run_loadAt_mid (P := Tryd.prog) w g 0 107 cs.toList _ (fun j v hv => by rw [Nat.zero_add, cell_of]; simpa using hv) und_tab rfl (by rw [size_tab]; simp [hs])
  simpa using this
theorem wp_load_tab {op : Oper} {a : Act} {w w0 : World} {S : Asn} {K : Act → World → Prop} {Q : Exit → Act → World → Prop} {g : Nat} {cs : Array Value} {fr : Nat × Nat} [m : Mod w w0 S] [h : Has S g (.cells cs 107 fr)] (x : Operand) (ho : op.op = .load 107 x)
    (hx : a.eval x = .pointer (some ⟨g, 0, none⟩)) (hs : cs.size = 256) (hk : K (a.put op.dst (.agg cs)) w) : op.wp Tryd.prog a w K Q := by
  refine wp_load_mid 107 x ho g 0 hx cs.toList _ (fun j v hv => by rw [Nat.zero_add, cell_of]; simpa using hv) und_tab rfl (by rw [size_tab]; simp [hs]) ?_
  simpa using hk
def setMany (cs : Array Value) : Nat → List Value → Array Value
  | _, [] => cs
  | o, v :: r => setMany (cs.setIfInBounds o v) (o + 1) r
theorem size_setMany : ∀ (l : List Value) (o : Nat) (cs : Array Value), (setMany cs o l).size = cs.size
  | [], _, _ => rfl
  | v :: r, o, cs => by simp only [setMany]; rw [size_setMany r (o + 1)]; simp
theorem get_setMany : ∀ (l : List Value) (o : Nat) (cs : Array Value) (i : Nat) (_ : i < cs.size), (setMany cs o l)[i]? = if o ≤ i ∧ i < o + l.length then l[i - o]? else cs[i]?
  | [], o, cs, i, _ => by simp [setMany]; omega
  | v :: r, o, cs, i, hi => by
    simp only [setMany]
    rw [get_setMany r (o + 1) _ i (by simpa using hi)]
    simp only [List.length_cons]
    by_cases h1 : o + 1 ≤ i ∧ i < o + 1 + r.length
    · rw [if_pos h1, if_pos (by omega), show i - o = (i - (o + 1)) + 1 by omega, List.getElem?_cons_succ]
    · rw [if_neg h1, Array.getElem?_setIfInBounds]
      by_cases h2 : o = i
      · subst h2; simp [hi]
      · rw [if_neg h2, if_neg (by omega)]
theorem setMany_all (cs cs' : Array Value) (h : cs.size = cs'.size) : setMany cs 0 cs'.toList = cs' := by
  apply Array.ext_getElem?
  intro i
  by_cases hi : i < cs.size
  · rw [get_setMany _ _ _ _ hi, if_pos (by simp; omega)]; simp
  · rw [Array.getElem?_eq_none (by rw [size_setMany]; omega), Array.getElem?_eq_none (by omega)]
theorem mod_setMany {w0 : World} {g : Nat} {ty : TypeId} {fr : Nat × Nat} {F : Asn} : ∀ (l : List Value) (o : Nat) (w : World) (cs : Array Value), Mod w w0 (blk g (.cells cs ty fr) * F) → Mod (w.setCells g o l) w0 (blk g (.cells (setMany cs o l) ty fr) * F)
  | [], _, _, _, m => m
  | v :: r, o, w, cs, m => by
    have h := Mod.setCells (i := o) v (m := m) (t := inferInstance) (g := g) (cs := cs) (ty := ty) (fr := fr)
    exact mod_setMany r (o + 1) _ _ (Mod.to (m := h) (by rw [emp_sep]))
theorem wpList_store_tab {ops : Array Oper} {rest : List Oper} {op : Oper} {a : Act} {w w0 : World} {S F : Asn} {Q : Exit → Act → World → Prop} {g : Nat} {cs cs' : Array Value} (hgd : op.guard = none) (x y : Operand) (ho : op.op = .store 107 x y) (hx : a.eval x = .pointer (some ⟨g, 0, none⟩)) (hy : a.eval y = .agg cs')
    (m : Mod w w0 S) [t : Take S (blk g) (.cells cs 107 (0, 0)) F] (hs : cs.size = 256) (hs' : cs'.size = 256) (h1 : cs'.all (·.oneCell') = true) (h : ∀ w', Mod w' w0 (blk g (.cells cs' 107 (0, 0)) * F) → wpList Tryd.prog ops Q rest (a.put op.dst undef) w') : wpList Tryd.prog ops Q (op :: rest) a w := by
  have hh : Has S g (.cells cs 107 (0, 0)) := by rw [t.eq]; infer_instance
  have m1 : Mod w w0 (blk g (.cells cs 107 (0, 0)) * F) := by rw [t.eq] at m; exact m
  refine wpList_store_mid hgd 107 x y ho g 0 cs' hx hy (fun j hj => ?_) (by rw [size_tab, hs']) h1 (h _ ?_)
  · have hc := @cell_of w w0 S g j cs 107 (0, 0) m hh
    have hf := @frozen_of w w0 S g j cs 107 m hh
    rw [Nat.zero_add, hc, hf]
    exact ⟨by rw [Array.getElem?_eq_getElem (by omega)]; rfl, rfl⟩
  · have := mod_setMany cs'.toList 0 w cs m1
    rw [setMany_all cs cs' (by omega)] at this
    exact this
theorem tab_one (k : Nat) : (tabCells k).all (·.oneCell') = true := by
  rw [Array.all_eq_true_iff_forall_mem]
  intro v hv
  unfold tabCells at hv
  simp only [List.mem_toArray, List.mem_map] at hv
  obtain ⟨i, _, rfl⟩ := hv
  split <;> rfl
theorem tab_size (k : Nat) : (tabCells k).size = 256 := by simp [tabCells]
set_option maxRecDepth 8000 in
set_option maxHeartbeats 2000000 in
theorem table_spec (w w0 : World) (S : Asn) (m : Mod w w0 S) : Calls Tryd.prog 58 #[] w fun e w' => e = .returned (.agg tabV) ∧ Mod w' w0 S := by
  go_enter Tryd.func58, Tryd.ntmps58
  go_wp2
  go_loopg [3] 256 (fun gk i wr => ∃ (k : Nat) (cs : Array Value), k ≤ 256 ∧ gk = 256 - k ∧ i = .int .i64 (k : Int) ∧ Hid (cs = tabCells k) ∧ Mod wr w0 (blk w.heap.size (.cells cs 107 (0, 0)) * S))
  case atStart => exact ⟨0, _, by omega, rfl, rfl, by show _ = _; kernel_rfl, inferInstance⟩
  case round =>
    obtain ⟨k, cs, hk, hgk, rfl, Hcs, m2⟩ := hrel
    have hcs : cs.size = 256 := by rw [Hcs.out]; exact tab_size k
    by_cases hlt : k < 256
    · have hki : (k : Int) < 256 := by omega
      go_wp2
      go_loopg [2, 8] 8 (fun gj n j wr => ∃ q : Nat, q ≤ 8 ∧ gj = 8 - q ∧ j = .int .i64 (q : Int) ∧ n = .int .u32 ((crcBits q (BitVec.ofNat 32 k)).toNat : Int) ∧ Mod wr w0 (blk w.heap.size (.cells cs 107 (0, 0)) * S))
      case atStart => exact ⟨0, by omega, rfl, rfl, by simp [crcBits]; omega, m2⟩
      case round =>
        obtain ⟨q, hq, hgj, rfl, rfl, m3⟩ := hrel
        by_cases hlq : q < 8
        · have hqi : (q : Int) < 8 := by omega
          have hv := (crcBits q (BitVec.ofNat 32 k)).isLt
          have HB := Lib.hid (crcBits_succ q (BitVec.ofNat 32 k))
          generalize crcBits q (BitVec.ofNat 32 k) = v at *
          go_wp2
          go_roundg (8 - (q + 1))
          case measure => omega
          case rel => exact ⟨q + 1, by omega, rfl, by go_num, by rw [crc_step, HB.out], m3⟩
        · have hq8 : q = 8 := by omega
          subst hq8
          go_wp2
          go_roundg (256 - (k + 1))
          case measure => omega
          case rel => exact ⟨k + 1, cs.setIfInBounds k (.int .u32 ((crcTab k).toNat : Int)), by omega, rfl, by go_num, by show _ = _; rw [Hcs.out]; exact tab_set k hlt, repack1 (blk w.heap.size) (inferInstance : Mod (wr.setCell ⟨w.heap.size, k, none⟩ (.int .u32 ((crcTab k).toNat : Int))) w0 _)⟩
    · have hk2 : k = 256 := by omega
      subst hk2
      go_wp2
      have h1 : cs.all (·.oneCell') = true := by rw [Hcs.out]; exact tab_one 256
      refine wp_load_tab _ rfl rfl hcs ?_
      rename_i hK
      refine hK _ _ ?_
      simp only [Act.put, List.setIfInBounds_toArray, List.set_cons_zero, List.set_cons_succ]
      refine wpList_store_tab rfl _ _ rfl rfl rfl m2 hcs hcs h1 fun w' m3 => ?_
      go_wp2
      refine bodyPost_ret (results_cell_row rfl _ _ w.heap.size 107 cs (0, 0) _ rfl (Mod.heap (m := m3)) und_tab rfl (by rw [size_tab, hcs])) rfl ?_
      exact ⟨by rw [Hcs.out]; rfl, Mod.sub (m := m3) S⟩
theorem not_u32 (s : BitVec 32) : bits .xor .u32 IntKind.u32.max (s.toNat : Int) = ((~~~ s).toNat : Int) := by
  have hs := s.isLt
  rw [show IntKind.u32.max = ((4294967295 : Nat) : Int) from by decide, u32_xor_nat _ _ (by omega) (by omega)]
  congr 1
theorem tab_size256 : tabV.size = 256 := tab_size 256
theorem upd_index (v : BitVec 32) (c : UInt8) : bits .xor .u8 ((v.toNat : Int) % 256) (c.toNat : Int) = ((v.toNat % 256 ^^^ c.toNat : Nat) : Int) := by
  have := c.toNat_lt
  exact u8_xor_nat (v.toNat % 256) c.toNat (by omega) (by omega)
theorem upd_lt (v : BitVec 32) (c : UInt8) : (v.toNat % 256 ^^^ c.toNat) < 256 := Nat.xor_lt_two_pow (n := 8) (by omega) c.toNat_lt
theorem upd_value (v : BitVec 32) (c : UInt8) : bits .xor .u32 ((v.toNat : Int) / 256) ((crcTab (v.toNat % 256 ^^^ c.toNat)).toNat : Int) = ((crcUpd v c).toNat : Int) := by
  have hv := v.isLt
  have := u32_xor_nat (v.toNat / 256) (crcTab (v.toNat % 256 ^^^ c.toNat)).toNat (by omega) (crcTab _).isLt
  rw [show ((v.toNat : Int) / 256) = ((v.toNat / 256 : Nat) : Int) from by omega, this]
  unfold crcUpd
  rw [BitVec.toNat_xor, BitVec.toNat_ushiftRight, Nat.shiftRight_eq_div_pow]
theorem tabV_get (i : Nat) (h : i < 256) : tabV[i]? = some (.int .u32 ((crcTab i).toNat : Int)) := by
  unfold tabV tabCells
  simp [h]
set_option maxHeartbeats 2000000 in
theorem on_spec (g : Nat) (s : BitVec 32) (B : Option Addr) (n c : Nat) (b : List UInt8) (w w0 : World) (S : Asn) (m : Mod w w0 S) (ht : Has S g (.cells tabV 107 (0, 0))) (r : Reads S B n (u8s b)) (hn : n ≤ 9223372036854775807) :
    Calls Tryd.prog 59 #[ptr g, .int .u32 (s.toNat : Int), .slice B n c] w fun e w' => e = .returned (.int .u32 ((crcOn s b).toNat : Int)) ∧ Mod w' w0 S := by
  have hl := reads_len m r
  rw [length_u8s] at hl
  have hs := s.isLt
  go_enter Tryd.func59, Tryd.ntmps59
  go_wp2
  go_loopg [7, 16] n (fun gk v i wr => ∃ k : Nat, k ≤ n ∧ gk = n - k ∧ i = .int .i64 (k : Int) ∧ v = .int .u32 ((((b.take k).foldl crcUpd (~~~ s)).toNat : Nat) : Int) ∧ Mod wr w0 S)
  case atStart => exact ⟨0, Nat.zero_le _, rfl, rfl, by rw [not_u32 s]; rfl, m⟩
  case round =>
    obtain ⟨k, hkn, hgk, rfl, rfl, m2⟩ := hrel
    by_cases hlt : k < n
    · obtain ⟨ad, hB, hsp, hc⟩ := reads_cell m2 r (by omega)
      obtain ⟨b1, o1, sp1⟩ := ad
      simp only at hsp
      subst hsp hB
      have hkl : k < b.length := by omega
      have hx := hc k (.int .u8 ((b[k].toNat : Nat) : Int)) (by simp [u8s, hkl])
      have hki : (k : Int) < (n : Int) := by omega
      have hcl := b[k].toNat_lt
      have HS : Hid ((b.take (k + 1)).foldl crcUpd (~~~ s) = crcUpd ((b.take k).foldl crcUpd (~~~ s)) b[k]) := by
        show _ = _
        rw [List.take_succ_eq_append_getElem hkl, List.foldl_append]; rfl
      clear hc
      generalize (b.take k).foldl crcUpd (~~~ s) = v at *
      generalize b[k] = c at *
      have hv := v.isLt
      have hix := upd_index v c
      have hlt2 := upd_lt v c
      have hval := upd_value v c
      have hcell := tabV_get (v.toNat % 256 ^^^ c.toNat) hlt2
      go_wp2
      go_roundg (n - (k + 1))
      case measure => omega
      case rel => exact ⟨k + 1, by omega, rfl, by go_num, by rw [HS.out], m2⟩
    · have hk2 : b.take k = b := List.take_of_length_le (by omega)
      rw [hk2] at *
      have he : bits .xor .u32 IntKind.u32.max (((b.foldl crcUpd (~~~ s)).toNat : Nat) : Int) = ((crcOn s b).toNat : Int) := not_u32 _
      go_wp2
      go_ret
      refine ⟨?_, m2⟩
      rw [← he]; rfl
theorem setCells_alloc {w : World} {ty : TypeId} {g : Nat} (hg : g = w.heap.size) : ∀ (l : List Value) (o : Nat) (cs : Array Value), (w.alloc (.cells cs ty)).setCells g o l = w.alloc (.cells (setMany cs o l) ty)
  | [], _, _ => rfl
  | v :: r, o, cs => by
    simp only [World.setCells, setMany]
    rw [World.setCell_alloc_at cs ty g o v hg]
    exact setCells_alloc hg r (o + 1) _
theorem zero_tab_size : Tryd.zeroCells107.size = 256 := by rw [show Tryd.zeroCells107 = tabCells 0 from by kernel_rfl]; exact tab_size 0
theorem store_tab (w : World) (g : Nat) [h : HpSize w g] : (storeCells ⟨g, 0, none⟩ tabV.toList).run Tryd.prog (w.alloc (.cells Tryd.zeroCells107 107)) = .ok () (w.alloc (.cells tabV 107)) := by
  have hg := h.eq
  subst hg
  have m0 : Mod (w.alloc (.cells Tryd.zeroCells107 107)) w (blk w.heap.size (.cells Tryd.zeroCells107 107 (0, 0)) * just (hp w)) := Mod.alloc (m := Mod.start w) (hn := ⟨rfl⟩) _
  have hs : tabV.size = 256 := tab_size256
  have one : ∀ v, v ∈ tabV → v.oneCell' = true := fun v hv => (Array.all_eq_true_iff_forall_mem.1 (tab_one 256)) v hv
  have h1 := run_storeCells_cells (P := Tryd.prog) w.heap.size 0 tabV.toList 0 (w.alloc (.cells Tryd.zeroCells107 107)) (fun j hj => by
    have hc := @cell_of _ w _ w.heap.size j Tryd.zeroCells107 107 (0, 0) m0 inferInstance
    have hj2 : j < Tryd.zeroCells107.size := by rw [zero_tab_size]; rw [Array.length_toList, hs] at hj; exact hj
    simp only [Nat.zero_add]
    rw [hc, Array.getElem?_eq_getElem hj2]; rfl) (fun j hj => by
    have hf := @frozen_of _ w _ w.heap.size j Tryd.zeroCells107 107 m0 inferInstance
    simp only [Nat.zero_add]
    exact hf) (fun v hv => one v (by simpa using hv))
  rw [h1, setCells_alloc rfl, setMany_all _ _ (by rw [zero_tab_size, hs])]
attribute [local go_sem] store_tab
theorem of_spec (g : Nat) (B : Option Addr) (n c : Nat) (b : List UInt8) (w w0 : World) (S : Asn) (m : Mod w w0 S) (ht : Has S g (.cells tabV 107 (0, 0))) (r : Reads S B n (u8s b)) (hn : n ≤ 9223372036854775807) :
    Calls Tryd.prog 60 #[ptr g, .slice B n c] w fun e w' => e = .returned (.int .u32 ((crcOn 0#32 b).toNat : Int)) ∧ Mod w' w0 S := by
  go_enter Tryd.func60, Tryd.ntmps60
  go_wp2_with (go_at_call 59; refine (on_spec g 0#32 B n c b _ w0 S m ht r hn).mono ?_; rintro e w1 ⟨rfl, m1⟩)
  go_ret
  exact ⟨rfl, m1⟩
set_option maxRecDepth 8000 in
set_option maxHeartbeats 2000000 in
theorem sum_spec (kind : UInt8) (B : Option Addr) (n c : Nat) (b : List UInt8) (w w0 : World) (S : Asn) (m : Mod w w0 S) (r : Reads S B n (u8s b)) (hn : n ≤ 9223372036854775807) :
    Calls Tryd.prog 49 #[.int .u8 (kind.toNat : Int), .slice B n c] w fun e w' => e = .returned (.int .u32 ((crcOf kind b).toNat : Int)) ∧ Mod w' w0 S := by
  go_enter Tryd.func49, Tryd.ntmps49
  go_wp2_with (go_at_call 58; refine (table_spec _ w0 _ inferInstance).mono ?_; rintro e w1 ⟨rfl, m1⟩)
  go_wp2_with first
    | (go_at_call 60; refine (of_spec w1.heap.size _ 1 _ [kind] _ w0 _ inferInstance inferInstance (reads_blk rfl rfl) (by omega)).mono ?_; rintro e w2 ⟨rfl, m2⟩)
    | (go_at_call 59; refine (on_spec w1.heap.size (crcOn 0#32 [kind]) B n c b _ w0 _ m2 inferInstance inferInstance hn).mono ?_; rintro e w3 ⟨rfl, m3⟩)
  go_ret
  exact ⟨rfl, Mod.sub S⟩
end Go.Proofs.YtmpgnnjhgjfgaaaDoor
