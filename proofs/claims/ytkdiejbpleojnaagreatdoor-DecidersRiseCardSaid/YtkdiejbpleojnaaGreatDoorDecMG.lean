/- Messages as cells; the answers that a decider holds: definitions and plain lemmas.
The walk of knows' put: a contract over the small separation logic; the conditions are in the theorem.
The walk of the decider's all: contracts over the small separation logic; the conditions are in each theorem.
The walk of the decider's goes: a contract over the small separation logic; the conditions are in the theorem.
A decider in the heap beside its plain state: definitions and plain lemmas.
What a decider is to know stays in its ranges: plain lemmas.
Messages that came in, read: plain lemmas.
Bytes that came in, read as numbers: plain lemmas. -/
import Derived.Test.YtkdiejbpleojnaaGreatDoorDecWG
import Derived.Deep.RegionHeld3
import Derived.Deep.QuietTactic
import Derived.BigQuiet
import Derived.Deep.LoopGhost
namespace Go.Sl
/-- a message -/
structure MsgV where
  say : Nat
  from_ : Nat
  to : Nat
  epoch : Nat
  level : Nat
  num : Nat
  index : Nat
  sure : Nat
  chA : Option Addr
  chN : Nat
  chC : Nat
  haA : Option Addr
  haN : Nat
  haC : Nat
  v10 : Value
  v11 : Value
  v12 : Value
  v13 : Value
  v14 : Value
  v15 : Value
def MsgV.cells (m : MsgV) : Array Value := #[vu8 m.say, vu8 m.from_, vu8 m.to, vu32 m.epoch, vu8 m.level, vu32 m.num, vu64 m.index, vu64 m.sure, .slice m.chA m.chN m.chC, .slice m.haA m.haN m.haC, m.v10, m.v11, m.v12, m.v13, m.v14, m.v15]
theorem MsgV.at0 (m : MsgV) : m.cells[0]? = some (vu8 m.say) := rfl
theorem MsgV.at1 (m : MsgV) : m.cells[1]? = some (vu8 m.from_) := rfl
theorem MsgV.at2 (m : MsgV) : m.cells[2]? = some (vu8 m.to) := rfl
theorem MsgV.at3 (m : MsgV) : m.cells[3]? = some (vu32 m.epoch) := rfl
theorem MsgV.at4 (m : MsgV) : m.cells[4]? = some (vu8 m.level) := rfl
theorem MsgV.at5 (m : MsgV) : m.cells[5]? = some (vu32 m.num) := rfl
theorem MsgV.at6 (m : MsgV) : m.cells[6]? = some (vu64 m.index) := rfl
theorem MsgV.at7 (m : MsgV) : m.cells[7]? = some (vu64 m.sure) := rfl
theorem MsgV.at8 (m : MsgV) : m.cells[8]? = some (.slice m.chA m.chN m.chC) := rfl
theorem MsgV.at9 (m : MsgV) : m.cells[9]? = some (.slice m.haA m.haN m.haC) := rfl
/-- an answer as it is held -/
def AnsV.msg (a : AnsV) (hA : Option Addr) (hC : Nat) : MsgV := ⟨0, 0, 0, 0, a.level, a.num, a.index, a.sure, none, 0, 0, hA, a.has.length, hC, .slice none 0 0, .slice none 0 0, .slice none 0 0, .int .i64 0, .bool false, .slice none 0 0⟩
def DecV.a (v : DecV) : Nat → Option Nat
  | 0 => v.a0
  | 1 => v.a1
  | 2 => v.a2
  | 3 => v.a3
  | 4 => v.a4
  | _ => none
theorem DecV.atA (v : DecV) (n : Nat) (h : n ≤ 4) : v.cells[27 + n]? = some (vptr (v.a n)) := by
  match n, h with
  | 0, _ => rfl
  | 1, _ => rfl
  | 2, _ => rfl
  | 3, _ => rfl
  | 4, _ => rfl
theorem DecV.atC (v : DecV) (n : Nat) (h : n < 4) : v.cells[11 + n]? = some (vu8 (v.kn.c n)) := by
  match n, h with
  | 0, _ => rfl
  | 1, _ => rfl
  | 2, _ => rfl
  | 3, _ => rfl
theorem DecV.atD (v : DecV) (n : Nat) (h : n < 4) : v.cells[15 + n]? = some (vu64 (v.kn.d n)) := by
  match n, h with
  | 0, _ => rfl
  | 1, _ => rfl
  | 2, _ => rfl
  | 3, _ => rfl
theorem DecV.atL (v : DecV) (n : Nat) (h : n < 4) : v.cells[19 + n]? = some (vu32 (v.kn.l n)) := by
  match n, h with
  | 0, _ => rfl
  | 1, _ => rfl
  | 2, _ => rfl
  | 3, _ => rfl
end Go.Sl
namespace Go.Proofs.YtkdiejbpleojnaaGreatDoor
open Go.RowKit Go.Sl
attribute [local go_sem] cell_of frozen_of zero_names DecV.at0 DecV.at1 DecV.at2 DecV.at3 DecV.at4 DecV.at5 DecV.at6 DecV.at7 DecV.at8 DecV.at9 DecV.at10 DecV.at11 DecV.at12 DecV.at13 DecV.at14 DecV.at15 DecV.at16 DecV.at17 DecV.at18 DecV.at19 DecV.at20 DecV.at21 DecV.at22 DecV.at23 DecV.at24 DecV.at25 DecV.at26 DecV.at27 DecV.at28 DecV.at29 DecV.at30 DecV.at31 MsgV.at0 MsgV.at1 MsgV.at2 MsgV.at3 MsgV.at4 MsgV.at5 MsgV.at6 MsgV.at7 MsgV.at8 MsgV.at9 Kn.at0 Kn.at1 Kn.at2 Kn.at3 Kn.at4 Kn.at5 Kn.at6 Array.getElem?_setIfInBounds
theorem four_of {l : List Nat} (h : l.length = 4) : ∃ a b c d, l = [a, b, c, d] := by
  match l, h with
  | [a, b, c, d], _ => exact ⟨a, b, c, d, rfl⟩
set_option maxRecDepth 4000 in
set_option maxHeartbeats 4000000 in
theorem put_spec (g : Nat) (k : Kn) (n has : Nat) (hm : k.many < 4) (hcl : k.chain.length = 4) (hdl : k.had.length = 4) (w w0 : World) (F : Asn) (m : Mod w w0 (blk g (.cells k.cells 171 (0, 0)) * F)) :
    Calls Tryz.prog 131 #[ptr g, .int .u8 (n : Int), .int .u64 (has : Int)] w fun e w' => e = .returned (.tuple #[]) ∧ Mod w' w0 (blk g (.cells (k.put n has).cells 171 (0, 0)) * F) := by
  have hcase : k.many = 0 ∨ k.many = 1 ∨ k.many = 2 ∨ k.many = 3 := by omega
  rcases hcase with h | h | h | h
  all_goals
    go_enter Tryz.func131, Tryz.ntmps131
    go_wp2_with fail
    go_region_held3 (fun u => u.cell? ⟨g, 6, none⟩ = some (.int .i64 (k.many : Int))) (first | (rw [cell_of]; rfl)) (fail)
    go_wp2_with fail
    go_end0
    refine ⟨rfl, Mod.to (m := inferInstance) ?_⟩
    simp only [emp_sep]
    congr 3
    obtain ⟨q1, q2, q3, q4, q5, q6, q7, ch, hd, lv, q11, q12⟩ := k
    simp only at h
    subst h
    obtain ⟨c0, c1, c2, c3, rfl⟩ := four_of hcl
    obtain ⟨d0, d1, d2, d3, rfl⟩ := four_of hdl
    rfl
end Go.Proofs.YtkdiejbpleojnaaGreatDoor
namespace Go.Proofs.YtkdiejbpleojnaaGreatDoor
open Go.RowKit Go.Sl
attribute [local go_sem] cell_of frozen_of zero_names DecV.at0 DecV.at1 DecV.at2 DecV.at3 DecV.at4 DecV.at5 DecV.at6 DecV.at7 DecV.at8 DecV.at9 DecV.at10 DecV.at11 DecV.at12 DecV.at13 DecV.at14 DecV.at15 DecV.at16 DecV.at17 DecV.at18 DecV.at19 DecV.at20 DecV.at21 DecV.at22 DecV.at23 DecV.at24 DecV.at25 DecV.at26 DecV.at27 DecV.at28 DecV.at29 DecV.at30 DecV.at31 MsgV.at0 MsgV.at1 MsgV.at2 MsgV.at3 MsgV.at4 MsgV.at5 MsgV.at6 MsgV.at7 MsgV.at8 MsgV.at9 Kn.at0 Kn.at1 Kn.at2 Kn.at3 Kn.at4 Kn.at5 Kn.at6
set_option maxRecDepth 4000 in
set_option maxHeartbeats 4000000 in
theorem dall_nil (x : Nat) (v : DecV) (i : Nat) (hi : i < 4) (hc4 : v.kn.c i ≤ 4) (ha : v.a (v.kn.c i) = none) (w w0 : World) (S : Asn) (m : Mod w w0 S) [hx : Has S x (.cells v.cells 175 (0, 0))] :
    Calls Tryz.prog 130 #[ptr x, .int .i64 (i : Int)] w fun e w' => e = .returned (.bool false) ∧ Mod w' w0 S := by
  have hii : (i : Int) < 4 := by omega
  have hi0 : (0 : Int) ≤ (i : Int) := by omega
  have hc := v.atC i hi
  have hcc : v.cells[27 + v.kn.c i]? = some (.pointer none) := by rw [v.atA _ hc4, ha]; rfl
  have hcI : (v.kn.c i : Int) < 5 := by omega
  generalize v.kn.c i = n at *
  go_enter Tryz.func130, Tryz.ntmps130
  go_wp2_with fail
  go_quiet (fail)
  go_wp2_with fail
  go_quiet (fail)
  go_wp2_with fail
  go_ret
  exact ⟨rfl, inferInstance⟩
set_option maxRecDepth 4000 in
set_option maxHeartbeats 4000000 in
theorem dall_some (x : Nat) (v : DecV) (i : Nat) (hi : i < 4) (hc4 : v.kn.c i ≤ 4) (g : Nat) (y : MsgV) (ha : v.a (v.kn.c i) = some g) (hep : v.kn.epoch < 4294967296) (w w0 : World) (S : Asn) (m : Mod w w0 S) [hx : Has S x (.cells v.cells 175 (0, 0))] [hy : Has S g (.cells y.cells 98 (0, 0))] :
    Calls Tryz.prog 130 #[ptr x, .int .i64 (i : Int)] w fun e w' => e = .returned (.bool (((y.level : Int) == 1) && ((((v.kn.d i : Int) != 18446744073709551615) && ((v.kn.index : Int) == 0)) || decide (v.kn.epoch ≤ y.sure)))) ∧ Mod w' w0 S := by
  have hii : (i : Int) < 4 := by omega
  have hi0 : (0 : Int) ≤ (i : Int) := by omega
  have hc := v.atC i hi
  have hd := v.atD i hi
  have hcc : v.cells[27 + v.kn.c i]? = some (ptr g) := by rw [v.atA _ hc4, ha]; rfl
  have hcI : (v.kn.c i : Int) < 5 := by omega
  have hw : IntKind.u64.wrap (v.kn.epoch : Int) = (v.kn.epoch : Int) := wrap_u64_nat (by omega)
  generalize v.kn.c i = n at *
  generalize v.kn.d i = dd at *
  cases b1 : ((y.level : Int) == 1) <;> cases b2 : ((dd : Int) != 18446744073709551615) <;> cases b3 : ((v.kn.index : Int) == 0)
  all_goals
    go_enter Tryz.func130, Tryz.ntmps130
    go_wp2_with fail
    go_quiet (fail)
    go_wp2_with fail
    go_quiet (fail)
    go_wp2_with fail
    go_ret
    exact ⟨rfl, inferInstance⟩
end Go.Proofs.YtkdiejbpleojnaaGreatDoor
namespace Go.Sl
def Kn.fourD (k : Kn) : List Nat := [k.d 0, k.d 1, k.d 2, k.d 3]
def Kn.fourL (k : Kn) : List Nat := [k.l 0, k.l 1, k.l 2, k.l 3]
/-- the message that a chain is made -/
structure ActOf (G : Asn) (k : Kn) (y : MsgV) (i : Nat) : Prop where
  say : y.say = 7
  to : y.to = k.c i
  epoch : y.epoch = k.epoch
  index : y.index = k.index
  haN : y.haN = k.many + k.many
  has : Reads G y.haA (k.many + k.many) ((k.fourD.take k.many ++ k.fourL.take k.many).map vu64)
theorem ActOf.lift {G G' : Asn} {k : Kn} {y : MsgV} {i : Nat} (h : ActOf G k y i) (r : Reads G' y.haA (k.many + k.many) ((k.fourD.take k.many ++ k.fourL.take k.many).map vu64)) : ActOf G' k y i := ⟨h.say, h.to, h.epoch, h.index, h.haN, r⟩
theorem Kn.fourL_snoc (k : Kn) (t : Nat) (h : t < 4) : k.fourL.take (t + 1) = k.fourL.take t ++ [k.l t] := by
  match t, h with
  | 0, _ => rfl
  | 1, _ => rfl
  | 2, _ => rfl
  | 3, _ => rfl
theorem Kn.four_at (k : Kn) (t : Nat) (h : t < 4) (l : Nat) (hl : t < l) : (k.four.take l)[t]? = some (k.c t) := by
  rw [List.getElem?_take_of_lt hl]
  match t, h with
  | 0, _ => rfl
  | 1, _ => rfl
  | 2, _ => rfl
  | 3, _ => rfl
end Go.Sl
namespace Go.Proofs.YtkdiejbpleojnaaGreatDoor
open Go.RowKit Go.Sl
attribute [local go_sem] cell_of frozen_of zero_names DecV.at0 DecV.at1 DecV.at2 DecV.at3 DecV.at4 DecV.at5 DecV.at6 DecV.at7 DecV.at8 DecV.at9 DecV.at10 DecV.at11 DecV.at12 DecV.at13 DecV.at14 DecV.at15 DecV.at16 DecV.at17 DecV.at18 DecV.at19 DecV.at20 DecV.at21 DecV.at22 DecV.at23 DecV.at24 DecV.at25 DecV.at26 DecV.at27 DecV.at28 DecV.at29 DecV.at30 DecV.at31 MsgV.at0 MsgV.at1 MsgV.at2 MsgV.at3 MsgV.at4 MsgV.at5 MsgV.at6 MsgV.at7 MsgV.at8 MsgV.at9 Kn.at0 Kn.at1 Kn.at2 Kn.at3 Kn.at4 Kn.at5 Kn.at6
theorem one_u64s (l : List Nat) : ∀ u ∈ u64s l, u.oneCell' = true := by intro u hu; obtain ⟨x, _, rfl⟩ := List.mem_map.1 hu; rfl
theorem reads_had {S : Asn} {x : Nat} {v : DecV} (h : Has S x (.cells v.cells 175 (0, 0))) (hm : v.kn.many ≤ 4) : Reads S (some ⟨x, 15, none⟩) v.kn.many (u64s (v.kn.fourD.take v.kn.many)) :=
  ⟨fun y _ => by simp [Kn.fourD, hm], fun y hy _ => ⟨_, rfl, rfl, fun j u hu => ⟨v.cells, 175, (0, 0), h.has y hy, by
    have hj : j < 4 ∧ j < v.kn.many := by
      have := (List.getElem?_eq_some_iff.1 hu).1
      simp [Kn.fourD] at this
      omega
    have hu2 : (u64s v.kn.fourD)[j]? = some u := by
      rw [← hu]
      simp only [u64s, List.map_take]
      rw [List.getElem?_take_of_lt hj.2]
    rw [← hu2, v.atD j hj.1]
    match j, hj.1 with
    | 0, _ => rfl
    | 1, _ => rfl
    | 2, _ => rfl
    | 3, _ => rfl⟩⟩⟩
set_option maxRecDepth 4000 in
set_option maxHeartbeats 4000000 in
theorem goes_spec (x : Nat) (v : DecV) (w w0 : World) (S : Asn) (hk : KnOk v.kn) (m : Mod w w0 S) [hx : Has S x (.cells v.cells 175 (0, 0))] :
    Calls Tryz.prog 137 #[ptr x] w fun e w' => ∃ (C : Option Addr) (c : Nat) (ys : List MsgV) (G : Asn), e = .returned (.slice C v.kn.many v.kn.many) ∧ ys.length = v.kn.many ∧ (∀ i (h : i < ys.length), ActOf G v.kn ys[i] i) ∧
      Mod w' w0 (rowA 98 16 (.slice C v.kn.many c) v.kn.many (ys.flatMap fun y => y.cells.toList) * (G * S)) := by
  have hm4 := hk.many
  have hmi : (v.kn.many : Int) ≤ 4 := by omega
  have hm0 : (0 : Int) ≤ (v.kn.many : Int) := by omega
  have rh := reads_had hx hk.many
  go_enter Tryz.func137, Tryz.ntmps137
  go_wp2_with fail
  go_region_held3 (fun u => u.cell? ⟨x, 10, none⟩ = some (.int .i64 (v.kn.many : Int))) ((rw [cell_of]; rfl))
    (first | (go_at_call 136; refine (clone_u64s (some ⟨x, 15, none⟩) v.kn.many 4 (u64s (v.kn.fourD.take v.kn.many)) _ w0 _ inferInstance (reads_lift inferInstance rh) (one_u64s _) (by omega)).mono ?_; rintro e w1 ⟨A', c', rfl, m1⟩))
  go_wp2_with fail
  go_quiet (fail)
  go_wp2_with fail
  have m2 : Mod (w1.drewN nq) w0 (rowA 90 1 (.slice A' (v.kn.many + 0) c') (v.kn.many + 0) (u64s (v.kn.fourD.take v.kn.many ++ v.kn.fourL.take 0)) * S) := by
    rw [List.take_zero, List.append_nil]; exact inferInstance
  go_loopg [3, 30] v.kn.many (fun gk hv iv wr => ∃ (t : Nat) (B : Option Addr) (c : Nat), t ≤ v.kn.many ∧ gk = v.kn.many - t ∧ hv = .slice B (v.kn.many + t) c ∧ iv = .int .i64 (t : Int) ∧ Mod wr w0 (rowA 90 1 (.slice B (v.kn.many + t) c) (v.kn.many + t) (u64s (v.kn.fourD.take v.kn.many ++ v.kn.fourL.take t)) * S))
  case atStart => exact ⟨0, A', c', by omega, rfl, rfl, rfl, m2⟩
  case round =>
    obtain ⟨t, B, c, ht, hgk, rfl, rfl, m3⟩ := hrel
    by_cases hlt : t < v.kn.many
    · have hlt2 : (t : Int) < (v.kn.many : Int) := by omega
      have hcell := v.atL t (by omega)
      have HT : Hid (v.kn.fourL.take (t + 1) = v.kn.fourL.take t ++ [v.kn.l t]) := v.kn.fourL_snoc t (by omega)
      have hlw : IntKind.u64.wrap (v.kn.l t : Int) = (v.kn.l t : Int) := wrap_u64_nat (by have := getD_lt hk.lives (by omega) t; show v.kn.lives.getD t 0 < _; omega)
      generalize v.kn.l t = y at *
      go_wp2_with (at_builtin; (refine wpList_append (v := .slice B (v.kn.many + t) c) (k := 1) (c := 1) (news := [vu64 y]) (r := reads_blk rfl rfl) rfl rfl inferInstance rfl rfl (by simp [Value.oneCell']) (by unfold maxLen; omega) (by omega) ?_); intro A2 c2 w4 m4)
      simp only [emp_sep] at m4
      rw [show u64s (v.kn.fourD.take v.kn.many ++ v.kn.fourL.take t) ++ [vu64 y] = u64s (v.kn.fourD.take v.kn.many ++ v.kn.fourL.take (t + 1)) by rw [HT.out]; simp [u64s]] at m4
      go_roundg (v.kn.many - (t + 1))
      case measure => omega
      case rel => exact ⟨t + 1, A2, c2, by omega, rfl, rfl, by go_num, drop_mid m4⟩
    · have htN : t = v.kn.many := by omega
      subst htN
      have hii : ¬ ((v.kn.many : Int) < (v.kn.many : Int)) := by omega
      go_wp2_with fail
      go_quiet (fail)
      go_wp2_with fail
      have m5 : Mod (wr.drewN nq) w0 (rowA 98 16 (.slice none 0 0) 0 [] * (rowA 90 1 (.slice B (v.kn.many + v.kn.many) c) (v.kn.many + v.kn.many) (u64s (v.kn.fourD.take v.kn.many ++ v.kn.fourL.take v.kn.many)) * S)) := row_none_n inferInstance
      obtain ⟨G0, hG0⟩ : ∃ G0, G0 = rowA 90 1 (.slice B (v.kn.many + v.kn.many) c) (v.kn.many + v.kn.many) (u64s (v.kn.fourD.take v.kn.many ++ v.kn.fourL.take v.kn.many)) := ⟨_, rfl⟩
      have rG0 : Reads G0 B (v.kn.many + v.kn.many) (u64s (v.kn.fourD.take v.kn.many ++ v.kn.fourL.take v.kn.many)) := by rw [hG0]; infer_instance
      rw [← hG0] at m5
      clear hG0 m3
      go_loopg [2, 51] v.kn.many (fun gk ov iv wr => ∃ (t : Nat) (C : Option Addr) (cC : Nat) (ys : List MsgV) (G : Asn), t ≤ v.kn.many ∧ gk = v.kn.many - t ∧ ov = .slice C t cC ∧ iv = .int .i64 (t : Int) ∧ ys.length = t ∧ (∀ i (h : i < ys.length), ActOf G v.kn ys[i] i) ∧ Reads G B (v.kn.many + v.kn.many) (u64s (v.kn.fourD.take v.kn.many ++ v.kn.fourL.take v.kn.many)) ∧
        Mod wr w0 (rowA 98 16 (.slice C t cC) t (ys.flatMap fun y => y.cells.toList) * (G * S)))
      case atStart => exact ⟨0, none, 0, [], G0, by omega, rfl, rfl, rfl, rfl, (fun i h => absurd h (by simp)), rG0, m5⟩
      case round =>
        obtain ⟨t, C, cC, ys, G, ht, hgk2, rfl, rfl, hys, hact, rG, m6⟩ := hrel
        by_cases hlt : t < v.kn.many
        · have hlt2 : (t : Int) < (v.kn.many : Int) := by omega
          have hcell := v.atC t (by omega)
          obtain ⟨gm, hgm⟩ : ∃ gm : Nat, IntKind.u32.wrap (v.kn.g1 : Int) = (gm : Int) := ⟨v.kn.g1 % 4294967296, by rw [IntKind.wrap_u32]; omega⟩
          have rn := reads_nodes hx hm4
          have Hact := Lib.hid hact
          have Hys := Lib.hid hys
          clear hact hys m5
          go_wp2_with fail
          go_region_held3 (fun u => u.cell? ⟨x, 4, none⟩ = some (vu32 v.kn.epoch) ∧ u.cell? ⟨x, 10, none⟩ = some (.int .i64 (v.kn.many : Int)) ∧ u.cell? ⟨x, 6, none⟩ = some (vu64 v.kn.index) ∧ u.cell? ⟨x, 23, none⟩ = some (vu64 v.kn.g0) ∧ u.cell? ⟨x, 24, none⟩ = some (vu64 v.kn.g1)) (refine ⟨?_, ?_, ?_, ?_, ?_⟩ <;> (rw [cell_of]; rfl))
            (first | (go_at_call 71; refine (clone_bytes (some ⟨x, 11, none⟩) v.kn.many 4 (n8s v.kn.nodes) _ w0 _ inferInstance (reads_lift inferInstance rn) (one_n8s _) (by omega)).mono ?_; rintro e w7 ⟨A7, c7, rfl, m7⟩) | (go_at_call 136; refine (clone_u64s B (v.kn.many + v.kn.many) c (u64s (v.kn.fourD.take v.kn.many ++ v.kn.fourL.take v.kn.many)) _ w0 _ m7 (reads_lift inferInstance rG) (one_u64s _) (by omega)).mono ?_; rintro e w8 ⟨A8, c8, rfl, m8⟩) | (go_at_call 206; refine (clipU64_spec A8 (v.kn.many + v.kn.many) c8 _ w0 _ m8 (row_len_cap m8)).mono ?_; rintro e w9 ⟨rfl, m9⟩) | (refine wp_build_one (t := 101) (e := 98) (size := 16) (bytes := 192) rfl rfl rfl (by decide) ?_) | (refine wp_mod (w0 := w0) ?_; intro mw; have mx := Mod.pull (m := mw) (rowA 98 16 (.slice C t cC) t (ys.flatMap fun y => y.cells.toList)); refine wp_append_n (t := 101) (e := 98) (size := 16) (bytes := 192) (k := 1) (c := 1) rfl mx rfl rfl (reads_blk rfl rfl) (by decide) (List.all_eq_true.1 (by rfl)) (by unfold maxLen; omega) (by omega) ?_; clear mw mx; intro A9 c9 w10 m10))
          obtain ⟨y, hy⟩ : ∃ y : MsgV, y = ⟨7, 0, v.kn.c t, v.kn.epoch, 0, gm, v.kn.index, v.kn.g0, A7, v.kn.many, c7, A8, v.kn.many + v.kn.many, v.kn.many + v.kn.many, .slice none 0 0, .slice none 0 0, .slice none 0 0, .int .i64 0, .bool false, .slice none 0 0⟩ := ⟨_, rfl⟩
          have m11 : Mod w10 w0 (rowA 98 16 (.slice A9 (t + 1) c9) (t + 1) ((ys ++ [y]).flatMap fun y => y.cells.toList) * ((rowA 90 1 (.slice A8 (v.kn.many + v.kn.many) c8) (v.kn.many + v.kn.many) (u64s (v.kn.fourD.take v.kn.many ++ v.kn.fourL.take v.kn.many)) * (rowA 5 1 (.slice A7 v.kn.many c7) v.kn.many (n8s v.kn.nodes) * G)) * S)) := by
            rw [List.flatMap_append, List.flatMap_singleton]
            have m11a : Mod w10 w0 (rowA 98 16 (.slice A9 (t + 1) c9) (t + 1) ((ys.flatMap fun y => y.cells.toList) ++ y.cells.toList) * (blk w9.heap.size (.cells y.cells 98) * (rowA 90 1 (.slice A8 (v.kn.many + v.kn.many) c8) (v.kn.many + v.kn.many) (u64s (v.kn.fourD.take v.kn.many ++ v.kn.fourL.take v.kn.many)) * (rowA 5 1 (.slice A7 v.kn.many c7) v.kn.many (n8s v.kn.nodes) * (G * S))))) := by subst hy; exact m10
            have := Mod.dropped (blk w9.heap.size (.cells y.cells 98)) (m := m11a)
            refine Mod.to (m := this) ?_
            rw [sep_assoc, sep_assoc]
          clear m10
          go_wp2_with fail
          go_roundg (v.kn.many - (t + 1))
          case measure => omega
          case rel =>
            refine ⟨t + 1, A9, c9, ys ++ [y], _, by omega, rfl, rfl, by go_num, by rw [List.length_append, Hys.out]; rfl, fun i hi => ?_, reads_lift inferInstance rG, m11⟩
            rw [List.length_append, Hys.out] at hi
            by_cases hit : i < t
            · have := Hact.out i (by rw [Hys.out]; exact hit)
              rw [List.getElem_append_left (by rw [Hys.out]; exact hit)]
              exact this.lift (reads_lift inferInstance this.has)
            · obtain rfl : i = t := by simp at hi; omega
              rw [List.getElem_append_right (by rw [Hys.out]; exact Nat.le_refl _)]
              simp only [Hys.out, Nat.sub_self, List.getElem_cons_zero]
              subst hy
              exact ⟨rfl, rfl, rfl, rfl, rfl, reads_lift inferInstance (Reads.row 90 A8 (v.kn.many + v.kn.many) c8 _)⟩
        · have htN : t = v.kn.many := by omega
          subst htN
          go_wp2_with (go_at_call 129; refine (clipMsg_spec C v.kn.many cC wr w0 _ m6 (row_len_cap m6)).mono ?_; rintro e w14 ⟨rfl, m14⟩)
          go_ret
          exact ⟨C, cC, ys, G, rfl, hys, hact, m14⟩
end Go.Proofs.YtkdiejbpleojnaaGreatDoor
namespace Go.Sl
/-- what is held of a message -/
def MsgV.ans (y : MsgV) (has : List Nat) : AnsV := ⟨y.num, y.level, y.index, y.sure, has⟩
structure AnsOk (a : AnsV) : Prop where
  num : a.num < 4294967296
  level : a.level < 256
  index : a.index < 18446744073709551616
  sure : a.sure < 18446744073709551616
  has : ∀ h ∈ a.has, h < 18446744073709551616
/-- a decider that may be -/
structure DpOk (s : Dp) : Prop where
  kn : KnOk s.kn
  chain : ChainOf s.kn s.kn.nodes
  c4 : ∀ i, s.kn.c i ≤ 4
  holder : s.kn.holder ≤ 4
  jn : s.join.length ≤ 1000000
  once : s.seals = true → OnceIn (s.kn.nodes ++ s.join)
  an : ∀ n a, s.an n = some a → AnsOk a
  le : s.kn.epoch ≤ s.kn.most
theorem DpOk.room {s : Dp} (h : DpOk s) (hs : s.seals = true) : s.kn.many + s.join.length ≤ 4 := by have := (h.once hs).le; rwa [List.length_append, ← h.chain.many] at this
theorem DpOk.jn4 {s : Dp} (h : DpOk s) (hs : s.seals = true) : ∀ n ∈ s.join, 1 ≤ n ∧ n ≤ 4 := fun n hn => (h.once hs).2 n (List.mem_append_right _ hn)
def DecV.setA (v : DecV) (n g : Nat) : DecV := match n with
  | 0 => { v with a0 := some g }
  | 1 => { v with a1 := some g }
  | 2 => { v with a2 := some g }
  | 3 => { v with a3 := some g }
  | _ => { v with a4 := some g }
theorem DecV.setA_a (v : DecV) (n g m : Nat) (h : n ≤ 4) (hm : m ≤ 4) : (v.setA n g).a m = if m = n then some g else v.a m := by
  match n, h, m, hm with
  | 0, _, 0, _ | 0, _, 1, _ | 0, _, 2, _ | 0, _, 3, _ | 0, _, 4, _ => rfl
  | 1, _, 0, _ | 1, _, 1, _ | 1, _, 2, _ | 1, _, 3, _ | 1, _, 4, _ => rfl
  | 2, _, 0, _ | 2, _, 1, _ | 2, _, 2, _ | 2, _, 3, _ | 2, _, 4, _ => rfl
  | 3, _, 0, _ | 3, _, 1, _ | 3, _, 2, _ | 3, _, 3, _ | 3, _, 4, _ => rfl
  | 4, _, 0, _ | 4, _, 1, _ | 4, _, 2, _ | 4, _, 3, _ | 4, _, 4, _ => rfl
theorem DecV.setA_rest (v : DecV) (n g : Nat) : (v.setA n g).pd = v.pd ∧ (v.setA n g).pj = v.pj ∧ (v.setA n g).name = v.name ∧ (v.setA n g).lines = v.lines ∧ (v.setA n g).kn = v.kn ∧ (v.setA n g).seals = v.seals ∧ (v.setA n g).jA = v.jA ∧ (v.setA n g).jn = v.jn := by
  unfold DecV.setA
  split <;> exact ⟨rfl, rfl, rfl, rfl, rfl, rfl, rfl, rfl⟩
/-- A node's answer comes. -/
def Dp.cameS (s : Dp) (y : MsgV) (has : List Nat) : Dp :=
  if s.seals = true ∧ y.epoch = s.kn.most ∧ y.from_ ∈ s.members ∧ s.an y.from_ = none then { s with an := fun n => if n = y.from_ then some (y.ans has) else s.an n } else s
/-- It tells that its disk is ready. -/
def Dp.isReady (s : Dp) (y : MsgV) : Prop := s.seals = false ∧ 0 < s.kn.many ∧ y.epoch = s.kn.epoch ∧ y.from_ = s.kn.c (s.kn.many - 1) ∧ y.num ≠ 0
def Dp.cameR (s : Dp) (y : MsgV) : Dp := { s with kn := { s.kn with holder := y.from_, stamp := y.num } }
theorem Dp.cameS_ok {s : Dp} {y : MsgV} {has : List Nat} (h : DpOk s) (ha : AnsOk (y.ans has)) : DpOk (s.cameS y has) := by
  unfold Dp.cameS
  split
  · refine ⟨h.kn, h.chain, h.c4, h.holder, h.jn, h.once, fun n a hn => ?_, h.le⟩
    simp only at hn
    split at hn
    · injection hn with hn; subst hn; exact ha
    · exact h.an n a hn
  · exact h
end Go.Sl
namespace Go.Proofs.YtkdiejbpleojnaaGreatDoor
open Go.RowKit Go.Sl
/-- an answer in its block -/
inductive AnsAt (G : Asn) : Option Nat → Option AnsV → Prop
  | no : AnsAt G none none
  | yes {g : Nat} {y : MsgV} {has : List Nat} : Has G g (.cells y.cells 98 (0, 0)) → y.haN = has.length → Reads G y.haA has.length (has.map vu64) → AnsAt G (some g) (some (y.ans has))
structure DecAt (p : Nat) (s : Dp) (v : DecV) (D : DiskSt) (g j : Nat) (ks : List Kn) (b : List UInt8) (G : Asn) : Prop where
  pd : v.pd = p
  pj : v.pj = some j
  kn : v.kn = s.kn
  seals : v.seals = s.seals
  jn : v.jn = s.join.length
  join : Reads G v.jA v.jn (n8s s.join)
  ans : ∀ n, n ≤ 4 → AnsAt G (v.a n) (s.an n)
  ok : DecOk v D g ks b
/-- .. in a world, beside F. -/
def DecSt (x p : Nat) (s : Dp) (F : Asn) (w0 w : World) : Prop := ∃ v D g j ks b G, DecAt p s v D g j ks b G ∧ Mod w w0 (decB x v * (diskA p D * (jourA j p v.name b.length * (G * F))))
theorem AnsAt.lift {G G' : Asn} {a : Option Nat} {o : Option AnsV} (h : AnsAt G a o) (hs : ∀ y hy, Has G y hy → Has G' y hy) (hr : ∀ A n l, Reads G A n l → Reads G' A n l) : AnsAt G' a o := by
  cases h with
  | no => exact .no
  | yes h1 h2 h3 => exact .yes (hs _ _ h1) h2 (hr _ _ _ h3)
theorem AnsAt.right {G K : Asn} {a : Option Nat} {o : Option AnsV} (h : AnsAt G a o) : AnsAt (K * G) a o := h.lift (fun _ _ _ => inferInstance) (fun _ _ _ r => reads_lift inferInstance r)
theorem _root_.Go.Sl.DecV.setA_cells (v : DecV) (n g : Nat) (h : n ≤ 4) : v.cells.setIfInBounds (27 + n) (ptr g) = (v.setA n g).cells := by
  match n, h with
  | 0, _ => rfl
  | 1, _ => rfl
  | 2, _ => rfl
  | 3, _ => rfl
  | 4, _ => rfl
theorem DecOk.setA {v : DecV} {D : DiskSt} {g : Nat} {ks : List Kn} {b : List UInt8} (h : DecOk v D g ks b) (n a : Nat) : DecOk (v.setA n a) D g ks b := by
  obtain ⟨_, _, q3, q4, q5, _, _, _⟩ := v.setA_rest n a
  obtain ⟨h1, h2, h3, h4, h5, h6, h7, h8, h9, h10⟩ := h
  exact ⟨h1, by rw [q3]; exact h2, by rw [q3]; exact h3, h4, h5, by rw [q4]; exact h6, by rw [q4]; exact h7, by rw [q5]; exact h8, by rw [q3]; exact h9, h10⟩
end Go.Proofs.YtkdiejbpleojnaaGreatDoor
namespace Go.Sl
theorem mem_set_or {l : List Nat} {i n x : Nat} (h : x ∈ l.set i n) : x ∈ l ∨ x = n := List.mem_or_eq_of_mem_set h
theorem KnOk.put {k : Kn} (h : KnOk k) {n has : Nat} (hn : n ≤ 4) (hh : has < 18446744073709551616) (hm : k.many < 4) : KnOk (k.put n has) :=
  ⟨h.epoch, h.most, h.index, h.holder, h.stamp, hm, by show (k.chain.set _ _).length = 4; rw [List.length_set]; exact h.chainL, by show (k.had.set _ _).length = 4; rw [List.length_set]; exact h.hadL, h.livesL,
    fun x hx => by rcases mem_set_or hx with e | e; exact h.chain x e; omega, fun x hx => by rcases mem_set_or hx with e | e; exact h.had x e; omega, h.lives, h.g0, h.g1⟩
theorem KnOk.base {k : Kn} (h : KnOk k) : KnOk k.base := ⟨h.epoch, h.most, h.index, h.holder, h.stamp, Nat.zero_le _, rfl, rfl, h.livesL, (show ∀ x ∈ [0, 0, 0, 0], x < 256 by decide), (show ∀ x ∈ [0, 0, 0, 0], x < 18446744073709551616 by decide), h.lives, h.g0, h.g1⟩
theorem Dp.ixOf_lt {s : Dp} (h : DpOk s) (n : Nat) : s.ixOf n < 18446744073709551616 := by
  unfold Dp.ixOf
  cases he : s.an n with
  | none => simp
  | some a => exact (h.an n a he).index
theorem Dp.numOf_lt {s : Dp} (h : DpOk s) (n : Nat) : s.numOf n < 4294967296 := by
  unfold Dp.numOf
  cases he : s.an n with
  | none => simp
  | some a => exact (h.an n a he).num
theorem Dp.keepN_many (s : Dp) : ∀ i, (s.keepN i).many ≤ i
  | 0 => Nat.le_refl _
  | i + 1 => by
    have := Dp.keepN_many s i
    unfold Dp.keepN
    split
    · show (s.keepN i).many + 1 ≤ _; omega
    · omega
theorem Dp.keepN_ok {s : Dp} (h : DpOk s) : ∀ i, i ≤ s.kn.many → KnOk (s.keepN i)
  | 0, _ => h.kn.base
  | i + 1, hi => by
    have := Dp.keepN_many s i
    have hm := h.kn.many
    unfold Dp.keepN
    split
    · exact (Dp.keepN_ok h i (by omega)).put (h.c4 i) (s.ixOf_lt h _) (by omega)
    · exact Dp.keepN_ok h i (by omega)
theorem Dp.joinN_many (s : Dp) (k : Kn) : ∀ i, (s.joinN k i).many ≤ k.many + i
  | 0 => Nat.le_refl _
  | i + 1 => by
    have := Dp.joinN_many s k i
    unfold Dp.joinN
    split
    · show (s.joinN k i).many + 1 ≤ _; omega
    · omega
theorem Dp.joinN_ok {s : Dp} {k : Kn} (hk : KnOk k) (h4 : ∀ n ∈ s.join, n ≤ 4) (hm : k.many + s.join.length ≤ 4) : ∀ i, i ≤ s.join.length → KnOk (s.joinN k i)
  | 0, _ => hk
  | i + 1, hi => by
    have := Dp.joinN_many s k i
    unfold Dp.joinN
    split
    · refine (Dp.joinN_ok hk h4 hm i (by omega)).put ?_ (by decide) (by omega)
      rw [List.getD_eq_getElem?_getD, List.getElem?_eq_getElem (by omega)]
      exact h4 _ (List.getElem_mem _)
    · exact Dp.joinN_ok hk h4 hm i (by omega)
theorem Dp.kept_some {s : Dp} {i n : Nat} (h : n ∈ s.kept i) : (s.an n).isSome = true := by
  obtain ⟨j, hj, rfl⟩ := List.mem_map.1 h
  have := (List.mem_filter.1 hj).2
  unfold Dp.allB at this
  cases ha : s.an (s.kn.c j) with
  | none => rw [ha] at this; cases this
  | some a => rfl
theorem Dp.joined_some {s : Dp} {i n : Nat} (h : n ∈ s.joined i) : (s.an n).isSome = true := (List.mem_filter.1 h).2
/-- What livesN leaves as it is. -/
structure SameKn (k k' : Kn) : Prop where
  epoch : k'.epoch = k.epoch
  most : k'.most = k.most
  index : k'.index = k.index
  holder : k'.holder = k.holder
  stamp : k'.stamp = k.stamp
  lost : k'.lost = k.lost
  many : k'.many = k.many
  chain : k'.chain = k.chain
  had : k'.had = k.had
  g0 : k'.g0 = k.g0
  g1 : k'.g1 = k.g1
theorem Dp.livesN_same (s : Dp) (k : Kn) : ∀ i, SameKn k (s.livesN k i)
  | 0 => ⟨rfl, rfl, rfl, rfl, rfl, rfl, rfl, rfl, rfl, rfl, rfl⟩
  | i + 1 => by obtain ⟨h1, h2, h3, h4, h5, h6, h7, h8, h9, h10, h11⟩ := Dp.livesN_same s k i; exact ⟨h1, h2, h3, h4, h5, h6, h7, h8, h9, h10, h11⟩
theorem Dp.livesN_ok {s : Dp} (h : DpOk s) {k : Kn} (hk : KnOk k) : ∀ i, KnOk (s.livesN k i)
  | 0 => hk
  | i + 1 => by
    obtain ⟨h1, h2, h3, h4, h5, h6, h7, h8, h9, h10, h11, h12, h13, h14⟩ := Dp.livesN_ok h hk i
    exact ⟨h1, h2, h3, h4, h5, h6, h7, h8, by show (List.set _ _ _).length = 4; rw [List.length_set]; exact h9, h10, h11, fun x hx => by rcases mem_set_or hx with e | e; exact h12 x e; rw [e]; exact s.numOf_lt h _, h13, h14⟩
theorem Dp.makes_ok {s : Dp} (h : DpOk s) {k : Kn} (hk : KnOk k) {index : Nat} (hi : index < 18446744073709551616) : KnOk (s.makes k index) := by
  have hS := s.livesN_same k k.many
  obtain ⟨h1, h2, h3, h4, h5, h6, h7, h8, h9, h10, h11, h12, h13, h14⟩ := Dp.livesN_ok h hk k.many
  exact ⟨h2, h2, hi, h4, h5, h6, h7, h8, h9, h10, h11, h12, by show (s.livesN k k.many).holder < _; omega, by show (s.livesN k k.many).stamp < _; omega⟩
theorem Dp.makes_chain {s : Dp} {k : Kn} {l : List Nat} (h : ChainOf k l) (index : Nat) : ChainOf (s.makes k index) l := by
  have hS := s.livesN_same k k.many
  exact ⟨hS.chain.trans h.chain, hS.many.trans h.many, h.once⟩
theorem Kn.set_l {k : Kn} (hl : k.lives.length = 4) (i n : Nat) (hi : i < 4) : k.cells.setIfInBounds (15 + i) (vu32 n) = ({ k with lives := k.lives.set i n } : Kn).cells := by
  obtain ⟨q1, q2, q3, q4, q5, q6, q7, ch, hd, lv, q11, q12⟩ := k
  simp only at hl
  match lv, hl with
  | [a, b, c, d], _ =>
    match i, hi with
    | 0, _ => rfl
    | 1, _ => rfl
    | 2, _ => rfl
    | 3, _ => rfl
structure SameNum (k k' : Kn) : Prop where
  most : k'.most = k.most
  holder : k'.holder = k.holder
  stamp : k'.stamp = k.stamp
  lost : k'.lost = k.lost
theorem joinN_num (s : Dp) (k : Kn) : ∀ i, SameNum k (s.joinN k i)
  | 0 => ⟨rfl, rfl, rfl, rfl⟩
  | i + 1 => by
    obtain ⟨h1, h2, h3, h4⟩ := joinN_num s k i
    unfold Dp.joinN
    split <;> exact ⟨h1, h2, h3, h4⟩
theorem keepN_num (s : Dp) : ∀ i, SameNum s.kn (s.keepN i)
  | 0 => ⟨rfl, rfl, rfl, rfl⟩
  | i + 1 => by
    obtain ⟨h1, h2, h3, h4⟩ := keepN_num s i
    unfold Dp.keepN
    split <;> exact ⟨h1, h2, h3, h4⟩
end Go.Sl
namespace Go.Proofs.YtkdiejbpleojnaaGreatDoor
open Go.RowKit Go.Sl
/-- A message whose list of numbers is read. -/
structure MsgOk (S : Asn) (y : MsgV) (has : List Nat) : Prop where
  say : y.say < 256
  from_ : y.from_ < 256
  to : y.to < 256
  epoch : y.epoch < 4294967296
  haN : y.haN = has.length
  small : y.haN ≤ 17592186044416
  rd : Reads S y.haA y.haN (has.map vu64)
  ok : AnsOk (y.ans has)
  one : ∀ v ∈ y.cells.toList, v.oneCell' = true
structure ReadsMsgs (S : Asn) (A : Option Addr) (n : Nat) (l : List MsgV) : Prop where
  len : l.length = n
  cells : Reads S A (n * 16) (l.flatMap fun y => y.cells.toList)
  each : ∀ y ∈ l, ∃ has, MsgOk S y has
end Go.Proofs.YtkdiejbpleojnaaGreatDoor
namespace Go.Proofs.YtkdiejbpleojnaaGreatDoor
open Go.ChangeShapes Go.WideShapes Go.ChangeAt Go.RowKit Go.Sl Go.Deep
theorem MsgOk.lift {S' S : Asn} {y : MsgV} {has : List Nat} (s : Sub S' S) (h : MsgOk S y has) : MsgOk S' y has := ⟨h.say, h.from_, h.to, h.epoch, h.haN, h.small, reads_lift s h.rd, h.ok, h.one⟩
theorem ReadsMsgs.lift {S' S : Asn} {A : Option Addr} {n : Nat} {l : List MsgV} (s : Sub S' S) (r : ReadsMsgs S A n l) : ReadsMsgs S' A n l :=
  ⟨r.len, reads_lift s r.cells, fun y hy => (r.each y hy).imp fun _ h => h.lift s⟩
theorem msg_flat : ∀ (l : List MsgV) (i : Nat) (v : Value), (l.flatMap fun y => y.cells.toList)[i]? = some v → ∃ h : i / 16 < l.length, l[i / 16].cells[i % 16]? = some v
  | [], i, _, h => by simp at h
  | x :: l, i, v, h => by
    have hl : x.cells.toList.length = 16 := rfl
    rw [List.flatMap_cons] at h
    by_cases hi : i < 16
    · rw [List.getElem?_append_left (by rw [hl]; exact hi)] at h
      have e1 : i / 16 = 0 := by omega
      have e2 : i % 16 = i := by omega
      refine ⟨by rw [e1]; simp, ?_⟩
      simp only [e1, e2, List.getElem_cons_zero]
      rw [← Array.getElem?_toList]; exact h
    · rw [List.getElem?_append_right (by rw [hl]; omega), hl] at h
      obtain ⟨h1, h2⟩ := msg_flat l (i - 16) v h
      have e1 : i / 16 = (i - 16) / 16 + 1 := by omega
      have e2 : i % 16 = (i - 16) % 16 := by omega
      refine ⟨by rw [e1, List.length_cons]; omega, ?_⟩
      simp only [e1, e2, List.getElem_cons_succ]
      exact h2
theorem msg_cell : ∀ (l : List MsgV) (k j : Nat) (v : Value) (h : k < l.length), l[k].cells[j]? = some v → (l.flatMap fun y => y.cells.toList)[k * 16 + j]? = some v
  | [], k, _, _, h, _ => by simp at h
  | x :: l, 0, j, v, _, hv => by
    simp only [List.getElem_cons_zero] at hv
    rw [← Array.getElem?_toList] at hv
    rw [List.flatMap_cons, Nat.zero_mul, Nat.zero_add, List.getElem?_append_left (List.getElem?_eq_some_iff.1 hv).1]
    exact hv
  | x :: l, k + 1, j, v, h, hv => by
    have hl : x.cells.toList.length = 16 := rfl
    rw [List.flatMap_cons, List.getElem?_append_right (by rw [hl]; omega), hl, show (k + 1) * 16 + j - 16 = k * 16 + j by omega]
    exact msg_cell l k j v (by simpa using h) (by simpa using hv)
set_option maxRecDepth 100000 in
theorem cells_msg : Tryz.prog.cellsOf 98 = 16 := by kernel_rfl
set_option maxRecDepth 100000 in
theorem cells_u32 : Tryz.prog.cellsOf 87 = 1 := by kernel_rfl
set_option maxRecDepth 100000 in
theorem cells_u64 : Tryz.prog.cellsOf 90 = 1 := by kernel_rfl
set_option maxRecDepth 100000 in
theorem cells_say : Tryz.prog.cellsOf 88 = 1 := by kernel_rfl
set_option maxRecDepth 100000 in
theorem cells_level : Tryz.prog.cellsOf 89 = 1 := by kernel_rfl
set_option maxRecDepth 100000 in
theorem cells_u64s : Tryz.prog.cellsOf 91 = 1 := by kernel_rfl
set_option maxRecDepth 100000 in
theorem cells_items : Tryz.prog.cellsOf 92 = 1 := by kernel_rfl
set_option maxRecDepth 100000 in
theorem cells_rows : Tryz.prog.cellsOf 93 = 1 := by kernel_rfl
set_option maxRecDepth 100000 in
theorem cells_saids : Tryz.prog.cellsOf 94 = 1 := by kernel_rfl
set_option maxRecDepth 100000 in
theorem cells_reply : Tryz.prog.cellsOf 96 = 3 := by kernel_rfl
set_option maxRecDepth 100000 in
theorem cells_errno : Tryz.prog.cellsOf 25 = 1 := by kernel_rfl
set_option maxRecDepth 100000 in
theorem bytes_u64 : Tryz.prog.bytesOf 90 = 8 := by kernel_rfl
theorem wf_u32 {k : Int} (h : (Lit.int .u32 k).wf = true) : ∃ n : Nat, k = n ∧ n < 4294967296 := by
  have h1 : IntKind.u32.min ≤ k ∧ k ≤ IntKind.u32.max := by simpa [Lit.wf] using h
  have e1 : IntKind.u32.min = 0 := by decide
  have e2 : IntKind.u32.max = 4294967295 := by decide
  rw [e1, e2] at h1
  exact ⟨k.toNat, by omega, by omega⟩
theorem wf_u64 {k : Int} (h : (Lit.int .u64 k).wf = true) : ∃ n : Nat, k = n ∧ n < 18446744073709551616 := by
  have h1 : IntKind.u64.min ≤ k ∧ k ≤ IntKind.u64.max := by simpa [Lit.wf] using h
  have e1 : IntKind.u64.min = 0 := by decide
  have e2 : IntKind.u64.max = 18446744073709551615 := by decide
  rw [e1, e2] at h1
  exact ⟨k.toNat, by omega, by omega⟩
theorem nats_u64 {xs : List Int} (h : ∀ x ∈ xs, (Lit.int .u64 x).wf = true) : ∃ ys : List Nat, xs.map (Value.int .u64) = ys.map vu64 ∧ ys.length = xs.length ∧ ∀ y ∈ ys, y < 18446744073709551616 := by
  induction xs with
  | nil => exact ⟨[], rfl, rfl, by simp⟩
  | cons x xs ih =>
    obtain ⟨ys, h1, h2, h3⟩ := ih fun y hy => h y (List.mem_cons_of_mem _ hy)
    obtain ⟨y, rfl, hy⟩ := wf_u64 (h x (List.mem_cons_self ..))
    exact ⟨y :: ys, by simp only [List.map_cons, h1], by simp [h2], fun z hz => (List.mem_cons.1 hz).elim (fun e => by rw [e]; exact hy) (h3 z)⟩
section
variable {H : Type} {enc : TypeId × Value → H} {W : World} {base : Nat} {held : Bool}
theorem any_slice {t e : TypeId} {fuel : Nat} {v : Value} {x : DataW H × List MemPlace} (ht : Tryz.prog.underlying t = some (.slice e)) (h : DataW.trod enc Tryz.prog W base (fun _ => true) held fuel t [v] = some x) : ∃ a n c, v = .slice a n c := by
  rcases open_slice ht h with ⟨h1, h2⟩ | ⟨a', n', c', m, k, D, Pl, h1, _⟩
  · exact ⟨none, 0, 0, by simpa using h1⟩
  · exact ⟨_, _, _, by simpa using h1⟩
/-- A slice of numbers, as a cell. -/
theorem u64s_cell {fuel : Nat} {v : Value} {x : DataW H × List MemPlace} (h : DataW.trod enc Tryz.prog W base (fun _ => true) held fuel 91 [v] = some x) :
    ∃ (a : Option Addr) (c : Nat) (b : List Nat), v = .slice a b.length c ∧ Reads (just (hp W)) a b.length (b.map vu64) ∧ (∀ y ∈ b, y < 18446744073709551616) ∧ (b = [] ∨ ∃ el sp, x.1 = .slice el sp ∧ el.length = b.length) := by
  rcases open_ints Tryz.underlying91 Tryz.underlying90 cells_u64 h with ⟨h1, h2⟩ | ⟨a', n', c', zs, h1, _, hl, hm, hz, h2, h3, h4⟩
  · simp at h1
    exact ⟨none, 0, [], h1, reads_nil, by simp, .inl rfl⟩
  · simp at h1
    simp only [if_true] at hz
    obtain ⟨ys, e1, e2, e3⟩ := nats_u64 (xs := zs.take n') fun y hy => h4 y (List.mem_of_mem_take hy)
    have hlen : ys.length = n' := by rw [e2, List.length_take]; omega
    refine ⟨some a', c', ys, by rw [hlen]; exact h1, ?_, e3, .inr ⟨_, _, by rw [h2], by rw [hlen]; simp [lits]; omega⟩⟩
    rw [← e1, hlen]
    refine reads_of_cells (by rw [List.length_map, List.length_take]; omega) fun i v hv => ?_
    simp only [List.getElem?_map, List.getElem?_take] at hv
    split at hv
    · rw [h3 i (by omega)]
      cases hz2 : zs[i]? with
      | none => rw [hz2] at hv; cases hv
      | some z =>
        rw [hz2] at hv
        simp only [Option.map_some, Option.some.injEq] at hv
        rw [← hv, List.getD_eq_getElem?_getD, hz2]; rfl
    · cases hv
structure MsgAt (W : World) (H : Type) (ad : Addr) (i : Nat) (d : DataW H) (y : MsgV) (has : List Nat) : Prop where
  cell : ∀ j v, y.cells[j]? = some v → W.cell? (ad.add (i * 16 + j)) = some v
  say : y.say < 256
  from_ : y.from_ < 256
  to : y.to < 256
  epoch : y.epoch < 4294967296
  haN : y.haN = has.length
  rd : Reads (just (hp W)) y.haA y.haN (has.map vu64)
  ok : AnsOk (y.ans has)
  one : ∀ v ∈ y.cells.toList, v.oneCell' = true
  data : ∃ d0 d1 d2 d3 d4 d5 d6 d7 d8 d9 d10 d11 d12 d13, d = .agg [d0, d1, d2, d3, d4, d5, d6, d7, d8, d9, d10, d11, d12, d13] ∧ (has = [] ∨ ∃ el sp, d9 = .slice el sp ∧ el.length = has.length)
set_option maxRecDepth 100000 in
set_option maxHeartbeats 1000000 in
theorem msg_at {fuel : Nat} {ad : Addr} {i : Nat} {cs : List Value} {x : DataW H × List MemPlace} (h1 : W.cells? base (ad.add (i * 16)) 16 = some cs) (h2 : DataW.trod enc Tryz.prog W base (fun _ => true) held fuel 98 cs = some x) : ∃ y has, MsgAt W H ad i x.1 y has := by
  obtain ⟨_, hlen, hcell⟩ := World.cells?_some h1
  obtain ⟨xs, k, hk, hxy, _, hxl, hf⟩ := DataW.trod_struct Tryz.underlying98 h2
  match xs, hxl, cs, hlen with
  | [y0, y1, y2, y3, y4, y5, y6, y7, y8, y9, y10, y11, y12, y13], _, [v0, v1, v2, v3, v4, v5, v6, v7, v8, v9, v10, v11, v12, v13, v14, v15], _ =>
    have g0 := hf 0 _ rfl
    have g1 := hf 1 _ rfl
    have g2 := hf 2 _ rfl
    have g3 := hf 3 _ rfl
    have g4 := hf 4 _ rfl
    have g5 := hf 5 _ rfl
    have g6 := hf 6 _ rfl
    have g7 := hf 7 _ rfl
    have g8 := hf 8 _ rfl
    have g9 := hf 9 _ rfl
    have g10 := hf 10 _ rfl
    have g11 := hf 11 _ rfl
    have g12 := hf 12 _ rfl
    have g13 := hf 13 _ rfl
    simp [cells_u8, cells_say, cells_u32, cells_level, cells_u64, cells_bytes, cells_u64s, cells_items, cells_rows, cells_saids, cells_reply] at g0 g1 g2 g3 g4 g5 g6 g7 g8 g9 g10 g11 g12 g13
    obtain ⟨n0, e0, x0, w0⟩ := DataW.trod_int Tryz.underlying88 g0
    obtain ⟨n1, e1, x1, w1⟩ := DataW.trod_int Tryz.underlying5 g1
    obtain ⟨n2, e2, x2, w2⟩ := DataW.trod_int Tryz.underlying5 g2
    obtain ⟨n3, e3, x3, w3⟩ := DataW.trod_int Tryz.underlying87 g3
    obtain ⟨n4, e4, x4, w4⟩ := DataW.trod_int Tryz.underlying89 g4
    obtain ⟨n5, e5, x5, w5⟩ := DataW.trod_int Tryz.underlying87 g5
    obtain ⟨n6, e6, x6, w6⟩ := DataW.trod_int Tryz.underlying90 g6
    obtain ⟨n7, e7, x7, w7⟩ := DataW.trod_int Tryz.underlying90 g7
    obtain ⟨a8, m8, c8, e8⟩ := any_slice Tryz.underlying46 g8
    obtain ⟨a9, c9, b9, e9, r9, s9, x9⟩ := u64s_cell g9
    obtain ⟨a10, m10, c10, e10⟩ := any_slice Tryz.underlying92 g10
    obtain ⟨a11, m11, c11, e11⟩ := any_slice Tryz.underlying93 g11
    obtain ⟨a12, m12, c12, e12⟩ := any_slice Tryz.underlying94 g12
    obtain ⟨zs, k2, _, _, _, hzl, hz⟩ := DataW.trod_struct Tryz.underlying96 g13
    have z0 := hz 0 _ rfl
    have z1 := hz 1 _ rfl
    have z2 := hz 2 _ rfl
    match zs, hzl with
    | [t0, t1, t2], _ =>
      simp [cells_errno, cells_bool, cells_rows] at z0 z1 z2
      obtain ⟨n13, e13, x13, w13⟩ := DataW.trod_int Tryz.underlying25 z0
      obtain ⟨b14, e14, x14⟩ := DataW.trod_bool Tryz.underlying4 z1
      obtain ⟨a15, m15, c15, e15⟩ := any_slice Tryz.underlying93 z2
      simp at e0 e1 e2 e3 e4 e5 e6 e7 e13 e14
      obtain ⟨k0, rfl, hk0⟩ := wf_u8 w0
      obtain ⟨k1, rfl, hk1⟩ := wf_u8 w1
      obtain ⟨k2, rfl, hk2⟩ := wf_u8 w2
      obtain ⟨k3, rfl, hk3⟩ := wf_u32 w3
      obtain ⟨k4, rfl, hk4⟩ := wf_u8 w4
      obtain ⟨k5, rfl, hk5⟩ := wf_u32 w5
      obtain ⟨k6, rfl, hk6⟩ := wf_u64 w6
      obtain ⟨k7, rfl, hk7⟩ := wf_u64 w7
      subst e0 e1 e2 e3 e4 e5 e6 e7 e8 e9 e10 e11 e12 e13 e14 e15
      refine ⟨⟨k0, k1, k2, k3, k4, k5, k6, k7, a8, m8, c8, a9, b9.length, c9, .slice a10 m10 c10, .slice a11 m11 c11, .slice a12 m12 c12, .int .i64 n13, .bool b14, .slice a15 m15 c15⟩, b9, ?_, hk0, hk1, hk2, hk3, rfl, r9, ⟨hk5, hk4, hk6, hk7, s9⟩, ?_, y0.1, y1.1, y2.1, y3.1, y4.1, y5.1, y6.1, y7.1, y8.1, y9.1, y10.1, y11.1, y12.1, y13.1, ?_, x9⟩
      · intro j v hv
        have hj : j < 16 := (Array.getElem?_eq_some_iff.1 hv).1
        have := hcell j hj
        rw [add_add] at this
        rw [this, ← hv, ← Array.getElem?_toList]
        rfl
      · exact List.all_eq_true.1 rfl
      · rw [hxy]; rfl
set_option maxRecDepth 100000 in
theorem arg_msgs {a : Option Addr} {n c : Nat} {d : DataW H} {p : List MemPlace} (h : DataW.Trod enc Tryz.prog W base (fun _ => true) held 101 (.slice a n c) d p)
    {ts : List TypeId} {ds : List (DataW H)} (hs : (DataW.weightsEach Tryz.prog ts ds).all (· ≤ reachBytes) = true) {j : Nat} (ht : ts[j]? = some 101) (hd : ds[j]? = some d) : ∃ l, ReadsMsgs (just (hp W)) a n l ∧ n ≤ 9223372036854775807 := by
  obtain ⟨fuel, hf⟩ := h
  rcases open_slice Tryz.underlying101 hf with ⟨h1, h2⟩ | ⟨a', n', c', m, k, D, Pl, h1, _, hl, hm, hmm, h2, h3⟩
  · simp [Value.cells] at h1
    obtain ⟨rfl, rfl, rfl⟩ := h1
    exact ⟨[], ⟨rfl, reads_nil, by simp⟩, by omega⟩
  · simp [Value.cells] at h1
    obtain ⟨rfl, rfl, rfl⟩ := h1
    have hlm := le_m hl hmm
    rw [cells_msg] at h3
    have each : ∀ i, i < n → ∃ y : MsgV × List Nat, MsgAt W H a' i (D i) y.1 y.2 := fun i hi => by
      obtain ⟨cs, g1, g2⟩ := h3 i (by omega)
      obtain ⟨y, has, h⟩ := msg_at g1 g2
      exact ⟨(y, has), h⟩
    have : Inhabited MsgV := ⟨⟨0, 0, 0, 0, 0, 0, 0, 0, none, 0, 0, none, 0, 0, .bool false, .bool false, .bool false, .bool false, .bool false, .bool false⟩⟩
    obtain ⟨q, hq⟩ := choose_lt each
    have hmem : ∀ x ∈ (List.range n).map fun i => (q i).1, ∃ i, i < n ∧ x = (q i).1 := fun x hx => by
      obtain ⟨i, hi, rfl⟩ := List.mem_map.1 hx
      exact ⟨i, List.mem_range.1 hi, rfl⟩
    unfold maxLen at hm
    injection h2 with hd2 _
    have hbound : ∀ i, i < n → ∀ k, k ∈ (D i).weights Tryz.prog 98 → k ≤ reachBytes := fun i hi k hk => by
      have := List.all_eq_true.1 hs k (DataW.weights_mem_each ht hd k (by
        rw [hd2]
        simp only [DataW.weights, Tryz.underlying101]
        exact List.mem_cons_of_mem _ (List.mem_append_left _ (weights_elem (List.mem_map_of_mem (List.mem_range.2 hi)) hk))))
      exact of_decide_eq_true this
    refine ⟨(List.range n).map fun i => (q i).1, ⟨by simp, ?_, ?_⟩, by omega⟩
    · refine reads_of_cells ?_ fun i v hv => ?_
      · rw [List.length_flatMap]
        have : ((List.range n).map fun i => (q i).1).map (fun x => x.cells.toList.length) = List.replicate n 16 := by
          apply List.ext_getElem <;> simp [MsgV.cells]
        rw [this, List.sum_replicate_nat]
      · obtain ⟨g1, g2⟩ := msg_flat _ i v hv
        have hi : i / 16 < n := by simpa using g1
        have := (hq (i / 16) hi).cell (i % 16) v (by simpa using g2)
        rw [show i / 16 * 16 + i % 16 = i by omega] at this
        exact this
    · intro x hx
      obtain ⟨i, hi, rfl⟩ := hmem x hx
      have hm := hq i hi
      refine ⟨(q i).2, hm.say, hm.from_, hm.to, hm.epoch, hm.haN, ?_, hm.rd, hm.ok, hm.one⟩
      obtain ⟨d0, d1, d2, d3, d4, d5, d6, d7, d8, d9, d10, d11, d12, d13, hdi, hb⟩ := hm.data
      rcases hb with hb | ⟨el, sp, hel, hlen⟩
      · rw [hm.haN, hb]; decide
      · have hall : ∀ k, k ∈ DataW.weightsEach Tryz.prog [88, 5, 5, 87, 89, 87, 90, 90, 46, 91, 92, 93, 94, 96] [d0, d1, d2, d3, d4, d5, d6, d7, d8, d9, d10, d11, d12, d13] → k ≤ reachBytes := fun k hk => by
          refine hbound i hi k ?_
          rw [hdi]
          simp only [DataW.weights, Tryz.underlying98]
          exact hk
        have b3 := hall _ (DataW.weights_mem_each (j := 9) (t := 91) (d := d9) rfl rfl ((el.length + sp.length) * Tryz.prog.bytesOf 90) (by rw [hel]; simp [DataW.weights, Tryz.underlying91]))
        rw [bytes_u64] at b3
        unfold reachBytes at b3
        rw [hm.haN]
        omega
end
end Go.Proofs.YtkdiejbpleojnaaGreatDoor
namespace Go.Proofs.YtkdiejbpleojnaaGreatDoor
open Go.ChangeShapes Go.WideShapes Go.ChangeAt Go.RowKit Go.Sl Go.Deep
section
variable {H : Type} {enc : TypeId × Value → H} {W : World} {base : Nat} {held : Bool}
set_option maxRecDepth 100000 in
theorem arg_u8s {a : Option Addr} {n c : Nat} {d : DataW H} {p : List MemPlace} (h : DataW.Trod enc Tryz.prog W base (fun _ => true) held 46 (.slice a n c) d p)
    {ts : List TypeId} {ds : List (DataW H)} (hs : (DataW.weightsEach Tryz.prog ts ds).all (· ≤ reachBytes) = true) {j : Nat} (ht : ts[j]? = some 46) (hd : ds[j]? = some d) : ∃ l : List Nat, Reads (just (hp W)) a n (n8s l) ∧ n ≤ c ∧ n ≤ 140737488355328 := by
  obtain ⟨xs, _, _, hnc, _⟩ := arg_bytes h
  obtain ⟨fuel, hf⟩ := h
  obtain ⟨a', c', b, e, r, x⟩ := bytes_cell (by simpa [Value.cells] using hf)
  injection e with e1 e2 e3
  subst e1 e2 e3
  refine ⟨b.map (·.toNat), by rw [show n8s (b.map (·.toNat)) = u8s b by simp [u8s]]; exact r, hnc, ?_⟩
  rcases x with x | ⟨el, sp, x1, x2⟩
  · rw [x]; decide
  · simp only at x1
    rw [x1] at hd
    have := sized_len hs ht hd Tryz.underlying46 (by rw [bytes_u8]; decide)
    unfold reachBytes at this
    omega
end
end Go.Proofs.YtkdiejbpleojnaaGreatDoor
