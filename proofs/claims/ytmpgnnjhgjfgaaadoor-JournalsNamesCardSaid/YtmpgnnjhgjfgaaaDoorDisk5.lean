/- The walks of maps.Clone of a disk's names and of the disk's function Names: contracts over the small separation logic; the conditions are in each theorem. -/
import Derived.Test.YtmpgnnjhgjfgaaaDoorDisk4
import Derived.Laws.Externs
namespace Go.Proofs.YtmpgnnjhgjfgaaaDoor
open Go.RowKit Go.Sl
attribute [local go_sem] cell_of frozen_of zero_names
theorem und_names : Tryd.prog.underlying 82 = some (.map (Tryd.prog.mapKey 82) (Tryd.prog.mapElem 82)) := by kernel_rfl
theorem eql_nil_map (w : World) (p : Option Nat) : (binOp .eql 82 (.map p) (.map none)).run Tryd.prog w = .ok (.bool p.isNone) w := by
  have e : ∀ d, (Op.equalIn (d + 1) 82 (.map p) (.map none)).run Tryd.prog w = .ok p.isNone w := fun d => by cases p <;> simp [Op.equalIn, run_underlying und_names]
  simp only [binOp]
  simp [show Op.equal 82 (.map p) (.map none) = Op.equalIn (9999 + 1) 82 (.map p) (.map none) from rfl, e 9999]
theorem typeAssert_names (w : World) (xT : TypeId) (v : Value) : (Instr.typeAssert (.iface 82 v) xT 82 false).run Tryd.prog w = .ok v w := by
  simp [Instr.typeAssert, run_underlying und_names, go_sem, Result.andThen]
attribute [local go_sem] eql_nil_map typeAssert_names
theorem run_clone_s {P : Program} {w w0 : World} {S : Asn} {r : Nat} {L : Pairs} (m : Mod w w0 S) (hm : HasMap S r L) (t : TypeId) :
    ∃ w', (Extern.MapsClone.clone #[.iface t (.map (some r))]).run P w = .ok (.iface t (.map (some w.heap.size))) w' ∧ Mod w' w0 (smap w.heap.size L * S) := by
  obtain ⟨es, clock, hok, hb⟩ := mapBlock (w0 := w0) (S := S) (r := r) (L := L) w
  refine ⟨w.alloc (.map es clock), ?_, Mod.conv (S := blk w.heap.size (.map es clock) * S) fun x hx => sep_imp (A := blk w.heap.size (.map es clock)) (A' := smap w.heap.size L) (fun y hy => ⟨es, clock, hok, hy⟩) hx⟩
  have e : Extern.MapsClone.clone #[.iface t (.map (some r))] = (getObj r >>= fun o => match o with
      | .map entries clock => (newObj (.map entries clock) >>= fun n => pure (.iface t (.map (some n))))
      | _ => stuck "maps.clone: a map expected") := rfl
  rw [e]
  simp [MapKept.run_getObj_map hb, Result.andThen, go_sem]
theorem call_clone (v : Value) (w : World) : (callFunc 54 #[v]).run Tryd.prog w = ((Extern.MapsClone.clone #[v]).run Tryd.prog w).andThen fun v w' => .ok (.value v) w' :=
  run_callFunc_extern Tryd.func54 (by kernel_rfl) (by kernel_rfl) (by kernel_rfl) (by kernel_rfl) _ w
set_option maxHeartbeats 1000000 in
theorem mapsClone_spec (r : Nat) (L : Pairs) (w w0 : World) (S : Asn) (m : Mod w w0 S) (hm : HasMap S r L) :
    Calls Tryd.prog 42 #[.map (some r)] w fun e w' => ∃ r', e = .returned (.map (some r')) ∧ Mod w' w0 (smap r' L * S) := by
  obtain ⟨w1, hrun, m1⟩ := run_clone_s (P := Tryd.prog) m hm 82
  go_enter Tryd.func42, Tryd.ntmps42
  repeat go_step
  rw [call_clone, hrun]
  simp only [Result.andThen]
  rw [Oper.upon_value]
  go_wp2
  go_ret
  exact ⟨_, rfl, m1⟩
theorem ask_none (g : Nat) (size : Int) (x y : Value) (ok : Bool) (w w0 : World) (S : Asn) [Mod w w0 S] [Has S g (.cells #[.int .i64 size, x, y] 84 (0,0))] (hsize : 0 < size) (r : Int) (hr : r = if ok = true then 0 else 1) :
    Calls Tryd.prog 41 #[.pointer (some ⟨g, 0, none⟩), .bool ok, .slice none 0 0] w fun e w' => e = .returned (.int .i64 r) ∧ Mod w' w0 S := by
  subst hr
  cases ok
  all_goals
    go_enter Tryd.func41, Tryd.ntmps41
    go_wp2_with (go_at_call 44; refine (there_live g size x y w w0 S hsize).mono ?_; rintro e w' ⟨rfl, rfl⟩)
    refine wp_loop_rounds 1 ?_
    rw [rounds_succ]
    go_wp2
    go_ret
    exact ⟨rfl, inferInstance⟩
set_option maxHeartbeats 1000000 in
theorem names_spec (p : Nat) (D : DiskSt) (w w0 : World) (S F : Asn) (m : Mod w w0 S) (t : Take S (diskA p) D F) :
    Calls Tryd.prog 22 #[.pointer (some ⟨p, 0, none⟩)] w fun e w' => e = .returned (.int .i64 0) ∧ Mod w' w0 (diskA p { D with sure := D.now } * F) := by
  obtain ⟨rn, rs, hok, m1⟩ := disk_open m t
  clear m
  have hpos : (0 : Int) < D.size := by have := hok.pos; omega
  go_enter Tryd.func22, Tryd.ntmps22
  go_wp2_with first
    | (go_at_call 41; refine (ask_none p D.size _ _ true _ w0 _ hpos 0 rfl).mono ?_; rintro e w' ⟨rfl, _inst⟩)
    | (go_at_call 42; refine (mapsClone_spec rn (ptrs D.now) _ w0 _ _inst inferInstance).mono ?_; rintro e w2 ⟨r', rfl, _m2⟩)
  go_ret
  refine ⟨rfl, ?_⟩
  exact disk_shut (rs := r') (w := w2.setCell ⟨p, 2, none⟩ (.map (some r'))) inferInstance { D with sure := D.now } (names_ok hok) rfl rfl rfl rfl
end Go.Proofs.YtmpgnnjhgjfgaaaDoor
