/- An act with a decider loaded whole and stored whole, and what of a decider is read beside others: plain lemmas and contracts over the small separation logic; the conditions are in each theorem. -/
import Derived.Test.YtkdiejbpleojnaaGreatDoorDecActs
import Derived.Test.YtkdiejbpleojnaaGreatDoorArgActs19
namespace Go.Proofs.YtkdiejbpleojnaaGreatDoor
open Go.RowKit Go.Sl
attribute [local go_sem] cell_of cellAt_of frozen_of zero_names DecV.at0 DecV.at4 DecV.at9
theorem und_act19 : ∃ fs, Tryz.prog.underlying 100 = some (.struct fs) := ⟨_, Tryz.underlying100⟩
theorem size_act19 : (Tryz.prog.info? 100).map (·.size) = some 20 := by kernel_rfl
/-- Its cells as an array. -/
def Act19V.arr (a : Act19V) : Array Value := a.cells.toArray
theorem Act19V.at0 (a : Act19V) : a.arr[0]? = some (.int .u8 (a.kind : Int)) := rfl
theorem Act19V.at1 (a : Act19V) : a.arr[1]? = some (.slice a.jA a.jn a.jc) := rfl
theorem Act19V.at18 (a : Act19V) : a.arr[18]? = some (.int .i64 a.keep) := rfl
theorem Act19V.at19 (a : Act19V) : a.arr[19]? = some (.bool a.names) := rfl
theorem Act19V.atM (a : Act19V) (j : Nat) (v : Value) (h : a.y.cells[j]? = some v) : a.arr[2 + j]? = some v := by
  have hj : j < a.y.cells.size := (Array.getElem?_eq_some_iff.1 h).1
  show a.cells.toArray[2 + j]? = _
  rw [List.getElem?_toArray]
  unfold Act19V.cells
  rw [Nat.add_comm, List.getElem?_cons_succ, List.getElem?_cons_succ, List.getElem?_append_left (by simpa using hj), Array.getElem?_toList]
  exact h
theorem Act19Ok.one {S : Asn} {a : Act19V} (h : Act19Ok S a) : ∀ v ∈ a.arr.toList, v.oneCell' = true := by
  intro v hv
  have hv : v ∈ a.cells := by simpa [Act19V.arr] using hv
  unfold Act19V.cells at hv
  rcases List.mem_cons.1 hv with rfl | hv
  · rfl
  · rcases List.mem_cons.1 hv with rfl | hv
    · rfl
    · rcases List.mem_append.1 hv with hv | hv
      · exact h.msg.one v hv
      · simp only [List.mem_cons, List.not_mem_nil, or_false] at hv
        rcases hv with rfl | rfl <;> rfl
/-- The load of an act out of a row that is read. -/
theorem wpList_load_act {ops : Array Oper} {rest : List Oper} {op : Oper} {a : Act} {w : World} {Q : Exit → Act → World → Prop} {g o : Nat} {k : Act19V} (hc : ∀ (j : Nat) v, k.cells[j]? = some v → w.cell? ⟨g, o + j, none⟩ = some v) (hgd : op.guard = none) {x : Operand} (ho : op.op = .load 100 x)
    (hx : a.eval x = .pointer (some ⟨g, o, none⟩)) (hk : wpList Tryz.prog ops Q rest (a.put op.dst (.agg k.arr)) w) : wpList Tryz.prog ops Q (op :: rest) a w := by
  obtain ⟨fs, hu⟩ := und_act19
  refine wpList_load_mid hgd 100 x ho g o hx k.cells _ (fun j v hv => hc j v hv) hu rfl (by rw [size_act19]; rfl) ?_
  exact hk
/-- The store of an act into a variable of its own. -/
theorem wpList_store_act {ops : Array Oper} {rest : List Oper} {op : Oper} {a : Act} {w w0 : World} {S F : Asn} {Q : Exit → Act → World → Prop} {g : Nat} {cs : Array Value} {k : Act19V} (h1 : ∀ v ∈ k.arr.toList, v.oneCell' = true) [m : Mod w w0 S] (hgd : op.guard = none) {x y : Operand} (ho : op.op = .store 100 x y) (hx : a.eval x = .pointer (some ⟨g, 0, none⟩)) (hy : a.eval y = .agg k.arr)
    [t : Take S (Go.Sl.blk g) (.cells cs 100 (0, 0)) F] (hs : cs.size = 20) (h : ∀ w', Mod w' w0 (Go.Sl.blk g (.cells k.arr 100 (0, 0)) * F) → wpList Tryz.prog ops Q rest (a.put op.dst undef) w') : wpList Tryz.prog ops Q (op :: rest) a w := by
  have hh : Has S g (.cells cs 100 (0, 0)) := by rw [t.eq]; infer_instance
  have m1 : Mod w w0 (Go.Sl.blk g (.cells cs 100 (0, 0)) * F) := by rw [← t.eq]; exact m
  refine wpList_store_mid hgd 100 x y ho g 0 k.arr hx hy (fun j hj => ?_) (by rw [size_act19]; rfl) (Array.all_eq_true_iff_forall_mem.2 fun v hv => h1 v (by simpa using hv)) (h _ ?_)
  · have hc := @cell_of w w0 S g j cs 100 (0, 0) m hh
    have hf := @frozen_of w w0 S g j cs 100 m hh
    rw [Nat.zero_add, hc, hf]
    have hj2 : j < 20 := hj
    exact ⟨by rw [Array.getElem?_eq_getElem (by omega)]; rfl, rfl⟩
  · have := mod_setMany k.arr.toList 0 w cs m1
    rw [setMany_all cs k.arr (by rw [hs]; rfl)] at this
    exact this
/-- The load of an act's message. -/
theorem wpList_load_actmsg {ops : Array Oper} {rest : List Oper} {op : Oper} {a : Act} {w w0 : World} {S : Asn} {Q : Exit → Act → World → Prop} {g : Nat} {k : Act19V} {t : TypeId} {fr : Nat × Nat} [m : Mod w w0 S] [h : Has S g (.cells k.arr t fr)] (hgd : op.guard = none) {x : Operand} (ho : op.op = .load 98 x)
    (hx : a.eval x = .pointer (some ⟨g, 2, none⟩)) (hk : wpList Tryz.prog ops Q rest (a.put op.dst (.agg k.y.cells)) w) : wpList Tryz.prog ops Q (op :: rest) a w := by
  obtain ⟨fs, hu⟩ := und_msg
  refine wpList_load_mid hgd 98 x ho g 2 hx k.y.cells.toList _ (fun j v hv => ?_) hu rfl (by rw [size_msg]; rfl) ?_
  · have hc := @cell_of w w0 S g (2 + j) k.arr t fr m h
    rw [hc]
    exact k.atM j v (by rw [← Array.getElem?_toList]; exact hv)
  · simpa using hk
theorem lost_mod (x : Nat) (v : DecV) (w w0 : World) (S : Asn) (m : Mod w w0 S) [Has S x (.cells v.cells 175 (0, 0))] : Calls Tryz.prog 59 #[ptr x] w fun e w' => e = .returned (.bool v.kn.lost) ∧ Mod w' w0 S := by
  go_enter Tryz.func59, Tryz.ntmps59
  go_wp2_with (go_at_call 124; refine (dthere_spec x v _ w0 _ m).mono ?_; rintro e w1 ⟨rfl, m1⟩)
  go_ret
  exact ⟨rfl, m1⟩
theorem epoch_mod (x : Nat) (v : DecV) (w w0 : World) (S : Asn) (m : Mod w w0 S) [Has S x (.cells v.cells 175 (0, 0))] : Calls Tryz.prog 51 #[ptr x] w fun e w' => e = .returned (vu32 v.kn.epoch) ∧ Mod w' w0 S := by
  go_enter Tryz.func51, Tryz.ntmps51
  go_wp2_with (go_at_call 124; refine (dthere_spec x v _ w0 _ m).mono ?_; rintro e w1 ⟨rfl, m1⟩)
  go_ret
  exact ⟨rfl, m1⟩
/-- What is told of a decider, whatever lies beside it. -/
structure Views (x : Nat) (s : Dp) (Z : Asn) (w0 : World) : Prop where
  epoch : ∀ (F : Asn) (u : World), Mod u w0 (Z * F) → Calls Tryz.prog 51 #[ptr x] u fun e u' => e = .returned (vu32 s.kn.epoch) ∧ Mod u' w0 (Z * F)
  lost : ∀ (F : Asn) (u : World), Mod u w0 (Z * F) → Calls Tryz.prog 59 #[ptr x] u fun e u' => e = .returned (.bool s.kn.lost) ∧ Mod u' w0 (Z * F)
theorem DecSt.views {x p : Nat} {s : Dp} {F : Asn} {w0 w : World} (m : DecSt x p s F w0 w) : ∃ Z, Mod w w0 (Z * F) ∧ (∀ w' F', Mod w' w0 (Z * F') → DecSt x p s F' w0 w') ∧ Views x s Z w0 := by
  obtain ⟨v, D, g, j, ks, b, G, hat, m⟩ := m
  refine ⟨decB x v * (diskA p D * (jourA j p v.name b.length * G)), Mod.to (m := m) (by ac_rfl), fun w' F' m' => ⟨v, D, g, j, ks, b, G, hat, Mod.to (m := m') (by ac_rfl)⟩, fun F' u mu => ?_, fun F' u mu => ?_⟩
  · rw [← hat.kn]; exact epoch_mod x v u w0 _ mu
  · rw [← hat.kn]; exact lost_mod x v u w0 _ mu
end Go.Proofs.YtkdiejbpleojnaaGreatDoor
