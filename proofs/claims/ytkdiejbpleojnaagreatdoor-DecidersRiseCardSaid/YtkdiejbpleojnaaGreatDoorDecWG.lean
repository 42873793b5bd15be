/- The walks of slices.Contains and Index on bytes: contracts over the small separation logic; the conditions are in each theorem.
The walk of slices.Concat on two rows of bytes: a contract over the small separation logic; the conditions are in the theorem.
The walk of the decider's members: a contract over the small separation logic; the conditions are in the theorem.
The walks of the decider's seal and there: contracts over the small separation logic; the conditions are in each theorem.
Deciders in plain terms: what one knows and holds, and what each call does: definitions and plain lemmas.
append onto a row of messages: an instance over the small separation logic.
A part of an assertion put ahead, what is left found by instances: plain lemmas over the small separation logic.
The walks of slices.Clip and of slices.Clone on numbers: contracts over the small separation logic; the conditions are in each theorem.
Chains of nodes, each once: plain lemmas.
The walk of the decider's Want: a contract over the small separation logic; the conditions are in the theorem. -/
import Derived.Test.YtkdiejbpleojnaaGreatDoorDecKG
import Derived.Test.YtkdiejbpleojnaaGreatDoorArgsG
import Derived.Deep.LoopGhost
import Derived.Test.YtkdiejbpleojnaaGreatDoorPartsG
import Derived.Deep.RegionHeld3
import Derived.Test.YtkdiejbpleojnaaGreatDoorBaseG
namespace Go.Proofs.YtkdiejbpleojnaaGreatDoor
open Go.RowKit Go.Sl
attribute [local go_sem] cell_of frozen_of zero_names
abbrev n8s (l : List Nat) : List Value := l.map fun x : Nat => Value.int .u8 (x : Int)
theorem index_spec (A : Option Addr) (n c : Nat) (l : List Nat) (x : Nat) (w w0 : World) (S : Asn) (m : Mod w w0 S) (r : Reads S A n (n8s l)) (hn : n ≤ 4611686018427387904) :
    Calls Tryz.prog 200 #[.slice A n c, .int .u8 (x : Int)] w fun e w' => (∃ i : Int, e = .returned (.int .i64 i) ∧ (0 ≤ i ↔ x ∈ l)) ∧ Mod w' w0 S := by
  have hl : l.length = n := by have := reads_len m r; simpa using this
  go_enter Tryz.func200, Tryz.ntmps200
  go_wp2_with fail
  go_loopg [8] n (fun gk iv wr => ∃ i : Nat, i ≤ n ∧ gk = n - i ∧ iv = .int .i64 (i : Int) ∧ Hid (x ∉ l.take i) ∧ Mod wr w0 S)
  case atStart => exact ⟨0, by omega, rfl, rfl, by show x ∉ _; simp, m⟩
  case round =>
    obtain ⟨i, hin, hgk, rfl, Hx, m2⟩ := hrel
    by_cases hlt : i < n
    · have hii : (i : Int) < (n : Int) := by omega
      obtain ⟨ad, hA, hsp, hcl⟩ := reads_cell m2 r (by omega)
      obtain ⟨bn, on_, sp⟩ := ad
      simp only at hsp
      subst hsp hA
      have hil : i < l.length := by omega
      have hx := hcl i (.int .u8 ((l[i] : Nat) : Int)) (by simp [hil])
      have HT : Hid (l.take (i + 1) = l.take i ++ [l[i]]) := List.take_succ_eq_append_getElem hil
      have HM : Hid (l[i] ∈ l) := List.getElem_mem hil
      generalize l[i] = y at *
      clear hcl hil
      by_cases hxy : x = y
      · have hc : ((x : Int) == (y : Int)) = true := by rw [hxy]; simp
        have HM2 : Hid (x ∈ l) := by show _ ∈ _; rw [hxy]; exact HM.out
        clear hxy
        go_wp2_with fail
        go_ret
        exact ⟨⟨_, rfl, by simp [HM2.out]⟩, m2⟩
      · have hc : ((x : Int) == (y : Int)) = false := beq_eq_false_iff_ne.2 (by omega)
        have Hxy := Lib.hid hxy
        clear hxy
        go_wp2_with fail
        go_roundg (n - (i + 1))
        case measure => omega
        case rel => exact ⟨i + 1, by omega, rfl, by go_num, by show x ∉ _; rw [HT.out]; simp [Hx.out, Hxy.out], m2⟩
    · have hii : ¬ ((i : Int) < (n : Int)) := by omega
      have HN : Hid (x ∉ l) := by
        have := Hx.out
        rw [List.take_of_length_le (by omega)] at this
        exact this
      go_wp2_with fail
      go_ret
      exact ⟨⟨_, rfl, by simp [HN.out]⟩, m2⟩
theorem contains_spec (A : Option Addr) (n c : Nat) (l : List Nat) (x : Nat) (w w0 : World) (S : Asn) (m : Mod w w0 S) (r : Reads S A n (n8s l)) (hn : n ≤ 4611686018427387904) :
    Calls Tryz.prog 125 #[.slice A n c, .int .u8 (x : Int)] w fun e w' => e = .returned (.bool (decide (x ∈ l))) ∧ Mod w' w0 S := by
  go_enter Tryz.func125, Tryz.ntmps125
  go_wp2_with fail
  refine (index_spec A n c l x w w0 S m r hn).mono ?_
  rintro e w2 ⟨⟨i, rfl, hi⟩, m2⟩
  have Hi := Lib.hid hi
  clear hi
  go_wp2_with fail
  go_ret
  have e2 : decide (0 ≤ i) = decide (x ∈ l) := decide_eq_decide.2 Hi.out
  exact ⟨by rw [← e2]; rfl, m2⟩
end Go.Proofs.YtkdiejbpleojnaaGreatDoor
namespace Go.Proofs.YtkdiejbpleojnaaGreatDoor
open Go.RowKit Go.Sl
attribute [local go_sem] cell_of frozen_of zero_names
theorem one_n8s (l : List Nat) : ∀ u ∈ n8s l, u.oneCell' = true := by
  intro u hu
  obtain ⟨x, _, rfl⟩ := List.mem_map.1 hu
  rfl
theorem n8s_append (a b : List Nat) : n8s (a ++ b) = n8s a ++ n8s b := by simp
set_option maxRecDepth 10000 in
set_option maxHeartbeats 2000000 in
theorem concat_ns (B : Option Addr) (n c : Nat) (xs : List Nat) (g : Nat) (ys : List Nat) (w w0 : World) (S : Asn) (m : Mod w w0 S) (r : Reads S B n (n8s xs)) (C : Option Addr) (k c2 : Nat) (hh : Has S g (.cells #[.slice B n c, .slice C k c2] 46 (0, 0))) (r2 : Reads S C k (n8s ys)) (hn : n + k ≤ 140737488355328) :
    Calls Tryz.prog 202 #[.slice (some ⟨g, 0, none⟩) 2 2] w fun e w' => ∃ A' c', e = .returned (.slice A' (n + k) c') ∧ Mod w' w0 (rowA 5 1 (.slice A' (n + k) c') (n + k) (n8s (xs ++ ys)) * S) := by
  go_enter Tryz.func202, Tryz.ntmps202
  go_wp2
  refine wp_loop_rounds 3 ?_
  rw [rounds_succ]
  go_wp2
  rw [rounds_succ]
  go_wp2
  rw [rounds_succ]
  go_wp2_with (go_at_call 262; refine (grow_int (n + k) _ (by omega) _ w0 S m hn).mono ?_; rintro e w1 ⟨A0, c0, rfl, m1⟩)
  refine wp_loop_rounds 3 ?_
  rw [rounds_succ]
  go_wp2_with (at_builtin; (refine wpList_append (v := .slice A0 0 c0) (A := B) (k := n) (c := c) (news := n8s xs) (r := inferInstance) rfl rfl m1 rfl rfl (one_n8s _) (by unfold maxLen; omega) (by omega) ?_); intro A1 c1 w2 m2; simp only [Nat.zero_add, List.nil_append, emp_sep] at m2)
  rw [rounds_succ]
  go_wp2_with (at_builtin; (refine wpList_append (v := .slice A1 n c1) (A := C) (k := k) (c := c2) (news := n8s ys) (r := inferInstance) rfl rfl m2 rfl rfl (one_n8s _) (by unfold maxLen; omega) (by omega) ?_); intro A2 c3 w3 m3; simp only [emp_sep] at m3)
  rw [rounds_succ]
  go_wp2
  go_ret
  refine ⟨A2, c3, rfl, ?_⟩
  rw [n8s_append]
  exact m3
end Go.Proofs.YtkdiejbpleojnaaGreatDoor
namespace Go.Sl
/-- the nodes of a chain, all four -/
def Kn.four (k : Kn) : List Nat := [k.c 0, k.c 1, k.c 2, k.c 3]
/-- .. those that are there -/
def Kn.nodes (k : Kn) : List Nat := k.four.take k.many
end Go.Sl
namespace Go.Proofs.YtkdiejbpleojnaaGreatDoor
open Go.RowKit Go.Sl
attribute [local go_sem] cell_of frozen_of zero_names DecV.at0 DecV.at1 DecV.at2 DecV.at3 DecV.at4 DecV.at5 DecV.at6 DecV.at7 DecV.at8 DecV.at9 DecV.at10 DecV.at11 DecV.at12 DecV.at13 DecV.at14 DecV.at15 DecV.at16 DecV.at17 DecV.at18 DecV.at19 DecV.at20 DecV.at21 DecV.at22 DecV.at23 DecV.at24 DecV.at25 DecV.at26 DecV.at27 DecV.at28 DecV.at29 DecV.at30 DecV.at31
theorem reads_nodes {S : Asn} {x : Nat} {v : DecV} (h : Has S x (.cells v.cells 175 (0, 0))) (hm : v.kn.many ≤ 4) : Reads S (some ⟨x, 11, none⟩) v.kn.many (n8s v.kn.nodes) :=
  ⟨fun y _ => by simp [Kn.nodes, Kn.four, hm], fun y hy _ => ⟨_, rfl, rfl, fun j u hu => ⟨v.cells, 175, (0, 0), h.has y hy, by
    have hj : j < 4 := by
      have := (List.getElem?_eq_some_iff.1 hu).1
      simp [Kn.nodes, Kn.four] at this
      omega
    have hu2 : (n8s v.kn.four)[j]? = some u := by
      rw [← hu]
      simp only [n8s, Kn.nodes, List.map_take]
      rw [List.getElem?_take_of_lt]
      have := (List.getElem?_eq_some_iff.1 hu).1
      simp [Kn.nodes, Kn.four] at this
      omega
    rw [← hu2]
    match j, hj with
    | 0, _ => rfl
    | 1, _ => rfl
    | 2, _ => rfl
    | 3, _ => rfl⟩⟩⟩
set_option maxRecDepth 4000 in
set_option maxHeartbeats 4000000 in
theorem members_spec (x : Nat) (v : DecV) (join : List Nat) (w w0 : World) (S : Asn) (m : Mod w w0 S) (h : Has S x (.cells v.cells 175 (0, 0))) (hm : v.kn.many ≤ 4) (r : Reads S v.jA v.jn (n8s join)) (hj : v.jn ≤ 1000000) :
    Calls Tryz.prog 127 #[ptr x] w fun e w' => ∃ A c, e = .returned (.slice A (v.kn.many + v.jn) c) ∧ Mod w' w0 (rowA 5 1 (.slice A (v.kn.many + v.jn) c) (v.kn.many + v.jn) (n8s (v.kn.nodes ++ join)) * S) := by
  have hmi : (v.kn.many : Int) ≤ 4 := by omega
  have rn := reads_nodes h hm
  go_enter Tryz.func127, Tryz.ntmps127
  go_wp2_with fail
  have hm0 : (0 : Int) ≤ (v.kn.many : Int) := by omega
  go_region_held3 (fun u => u.cell? ⟨x, 10, none⟩ = some (.int .i64 (v.kn.many : Int)) ∧ u.cell? ⟨x, 26, none⟩ = some (.slice v.jA v.jn v.jc)) (refine ⟨?_, ?_⟩ <;> (rw [cell_of]; rfl))
    (first | (go_at_call 202; refine (concat_ns (some ⟨x, 11, none⟩) v.kn.many 4 v.kn.nodes w.heap.size join _ w0 _ inferInstance (reads_lift inferInstance rn) v.jA v.jn v.jc inferInstance (reads_lift inferInstance r) (by omega)).mono ?_; rintro e w1 ⟨A', c', rfl, m1⟩))
  go_wp2_with fail
  go_ret
  exact ⟨A', c', rfl, drop_mid m1⟩
end Go.Proofs.YtkdiejbpleojnaaGreatDoor
namespace Go.Proofs.YtkdiejbpleojnaaGreatDoor
open Go.RowKit Go.Sl
attribute [local go_sem] cell_of frozen_of zero_names DecV.at0 DecV.at1 DecV.at2 DecV.at3 DecV.at4 DecV.at5 DecV.at6 DecV.at7 DecV.at8 DecV.at9 DecV.at10 DecV.at11 DecV.at12 DecV.at13 DecV.at14 DecV.at15 DecV.at16 DecV.at17 DecV.at18 DecV.at19 DecV.at20 DecV.at21 DecV.at22 DecV.at23 DecV.at24 DecV.at25 DecV.at26 DecV.at27 DecV.at28 DecV.at29 DecV.at30 DecV.at31
set_option maxHeartbeats 1000000 in
theorem dthere_spec (x : Nat) (v : DecV) (w w0 : World) (S : Asn) (m : Mod w w0 S) [Has S x (.cells v.cells 175 (0, 0))] :
    Calls Tryz.prog 124 #[ptr x] w fun e w' => e = .returned (.bool true) ∧ Mod w' w0 S := by
  go_enter Tryz.func124, Tryz.ntmps124
  go_wp2
  go_ret
  exact ⟨rfl, inferInstance⟩
set_option maxHeartbeats 1000000 in
theorem dthere_nil (w w0 : World) (S : Asn) (m : Mod w w0 S) :
    Calls Tryz.prog 124 #[.pointer none] w fun e w' => e = .returned (.bool false) ∧ Mod w' w0 S := by
  go_enter Tryz.func124, Tryz.ntmps124
  go_wp2
  go_ret
  exact ⟨rfl, inferInstance⟩
set_option maxRecDepth 100000 in
theorem und_msg : ∃ fs, Tryz.prog.underlying 98 = some (.struct fs) := ⟨_, Tryz.underlying98⟩
set_option maxRecDepth 100000 in
theorem size_msg : (Tryz.prog.info? 98).map (·.size) = some 16 := by kernel_rfl
/-- a message that has no lists -/
def msg0 (say to epoch num : Nat) (from_ level index sure : Nat) : Array Value :=
  #[vu8 say, vu8 from_, vu8 to, vu32 epoch, vu8 level, vu32 num, vu64 index, vu64 sure, .slice none 0 0, .slice none 0 0, .slice none 0 0, .slice none 0 0, .slice none 0 0, .int .i64 0, .bool false, .slice none 0 0]
set_option maxRecDepth 4000 in
set_option maxHeartbeats 4000000 in
theorem seal_spec (x : Nat) (v : DecV) (to : Nat) (w w0 : World) (S : Asn) (m : Mod w w0 S) [h : Has S x (.cells v.cells 175 (0, 0))] :
    Calls Tryz.prog 128 #[ptr x, .int .u8 (to : Int)] w fun e w' => e = .returned (.agg (msg0 5 to v.kn.most 0 0 0 0 0)) ∧ Mod w' w0 S := by
  go_enter Tryz.func128, Tryz.ntmps128
  go_wp2_with fail
  have m2 : Mod (w.alloc (.cells (msg0 5 to v.kn.most 0 0 0 0 0) 98)) w0 (blk w.heap.size (.cells (msg0 5 to v.kn.most 0 0 0 0 0) 98 (0, 0)) * S) := inferInstance
  obtain ⟨fs, hu⟩ := und_msg
  refine bodyPost_ret (results_cell_row rfl _ _ w.heap.size 98 (msg0 5 to v.kn.most 0 0 0 0 0) (0, 0) _ rfl (Mod.heap (m := m2)) hu rfl (by rw [size_msg]; rfl)) rfl ?_
  exact ⟨rfl, Mod.drop (m := m2)⟩
end Go.Proofs.YtkdiejbpleojnaaGreatDoor
namespace Go.Sl
/-- an answer of a node -/
structure AnsV where
  num : Nat
  level : Nat
  index : Nat
  sure : Nat
  has : List Nat
/-- a decider -/
structure Dp where
  kn : Kn
  seals : Bool
  join : List Nat
  an : Nat → Option AnsV
def none64 : Nat := 18446744073709551615
def Dp.members (s : Dp) : List Nat := s.kn.nodes ++ s.join
/-- May these join? -/
def joinOk (nodes join : List Nat) : Prop := (∀ t, t < join.length → 1 ≤ join.getD t 0 ∧ join.getD t 0 ≤ 4 ∧ join.getD t 0 ∉ nodes ∧ join.getD t 0 ∉ join.take t) ∧ 0 < join.length + nodes.length
/-- Has a member of the chain all? -/
def Dp.allB (s : Dp) (i : Nat) : Bool := match s.an (s.kn.c i) with
  | none => false
  | some a => decide (a.level = 1) && ((!decide (s.kn.d i = none64) && decide (s.kn.index = 0)) || decide (s.kn.epoch ≤ a.sure))
def Kn.put (k : Kn) (n has : Nat) : Kn := { k with chain := k.chain.set k.many n, had := k.had.set k.many has, many := k.many + 1 }
def Kn.base (k : Kn) : Kn := { k with many := 0, chain := [0, 0, 0, 0], had := [0, 0, 0, 0] }
def Dp.ixOf (s : Dp) (n : Nat) : Nat := ((s.an n).map (·.index)).getD 0
def Dp.numOf (s : Dp) (n : Nat) : Nat := ((s.an n).map (·.num)).getD 0
def Dp.keepN (s : Dp) : Nat → Kn
  | 0 => s.kn.base
  | i + 1 => if s.allB i then (s.keepN i).put (s.kn.c i) (s.ixOf (s.kn.c i)) else s.keepN i
def Dp.joinN (s : Dp) (k : Kn) : Nat → Kn
  | 0 => k
  | i + 1 => if (s.an (s.join.getD i 0)).isSome then (s.joinN k i).put (s.join.getD i 0) none64 else s.joinN k i
def Dp.lacksN (s : Dp) (i : Nat) : Bool := (List.range i).any fun j => (s.an (s.kn.c j)).isNone
def Dp.livesN (s : Dp) (k : Kn) : Nat → Kn
  | 0 => k
  | i + 1 => let k2 := s.livesN k i; { k2 with lives := k2.lives.set i (s.numOf (k.c i)) }
def Dp.makes (s : Dp) (k : Kn) (index : Nat) : Kn := let k2 := s.livesN k k.many; { k2 with epoch := k2.most, index := index, g0 := k2.holder, g1 := k2.stamp }
inductive DecRes where
  | state
  | made (k : Kn)
  | lost
def Dp.disk (s : Dp) (k : Kn) (missing : Bool) : DecRes :=
  if missing then .state
  else if s.kn.holder = 0 then .made (s.makes (k.put (s.kn.c 0) 0) 2)
  else match s.an s.kn.holder with
    | none => .state
    | some a => if a.has.length = 2 ∧ s.kn.stamp ≤ a.has.getD 0 0 ∧ a.has.getD 0 0 < 4294967296 then .made (s.makes ({ k with stamp := a.has.getD 0 0 }.put s.kn.holder (a.has.getD 1 0)) 1)
      else .lost
def Dp.decide (s : Dp) : DecRes :=
  if s.seals = false then .state
  else
    let k1 := s.keepN s.kn.many
    if 0 < k1.many ∨ s.kn.many = 0 then
      let k2 := s.joinN k1 s.join.length
      if k2.many = 0 then .state
      else if k1.many = 0 then .made (s.makes { k2 with had := k2.had.set 0 0 } 2)
      else .made (s.makes k2 0)
    else s.disk k1 (s.lacksN s.kn.many)
/-- the state behind it -/
def Dp.after (s : Dp) : DecRes → Dp
  | .state => s
  | .made k => { s with kn := k, seals := false }
  | .lost => { s with kn := { s.kn with lost := true }, seals := false }
end Go.Sl
namespace Go.Proofs.YtkdiejbpleojnaaGreatDoor
open Go.RowKit Go.Sl
instance rowN_msgs : RowN Tryz.prog 101 98 16 192 := ⟨by kernel_rfl, by kernel_rfl⟩
end Go.Proofs.YtkdiejbpleojnaaGreatDoor
namespace Go.Sl
open Go
/-- S is A beside R. -/
class Pull (S A : Asn) (R : outParam Asn) : Prop where
  eq : S = A * R
instance (priority := 2000) Pull.here (A B : Asn) : Pull (A * B) A B := ⟨rfl⟩
instance (priority := 1900) Pull.last (A B : Asn) : Pull (A * B) B A := ⟨sep_comm A B⟩
instance (priority := 1000) Pull.right (A B C R : Asn) [t : Pull B C R] : Pull (A * B) C (A * R) := ⟨by rw [t.eq, sep_left_comm]⟩
instance (priority := 900) Pull.left (A B C R : Asn) [t : Pull A C R] : Pull (A * B) C (R * B) := ⟨by rw [t.eq, sep_assoc]⟩
instance (priority := 3000) Pull.row (A B R1 R2 S : Asn) [t1 : Pull S A R1] [t2 : Pull R1 B R2] : Pull S (A * B) R2 := ⟨by rw [t1.eq, t2.eq, sep_assoc]⟩
theorem Mod.pull {w w0 : World} {S : Asn} (A : Asn) {R : Asn} [m : Mod w w0 S] [t : Pull S A R] : Mod w w0 (A * R) := t.eq ▸ m
theorem Mod.pull2 {w w0 : World} {S : Asn} (A B : Asn) {R1 R2 : Asn} [m : Mod w w0 S] [t1 : Pull S A R1] [t2 : Pull R1 B R2] : Mod w w0 (A * (B * R2)) := by
  rw [← t2.eq, ← t1.eq]; exact m
theorem Mod.pull3 {w w0 : World} {S : Asn} (A B C : Asn) {R1 R2 R3 : Asn} [m : Mod w w0 S] [t1 : Pull S A R1] [t2 : Pull R1 B R2] [t3 : Pull R2 C R3] : Mod w w0 (A * (B * (C * R3))) := by
  rw [← t3.eq, ← t2.eq, ← t1.eq]; exact m
theorem Mod.pull4 {w w0 : World} {S : Asn} (A B C D : Asn) {R1 R2 R3 R4 : Asn} [m : Mod w w0 S] [t1 : Pull S A R1] [t2 : Pull R1 B R2] [t3 : Pull R2 C R3] [t4 : Pull R3 D R4] : Mod w w0 (A * (B * (C * (D * R4)))) := by
  rw [← t4.eq, ← t3.eq, ← t2.eq, ← t1.eq]; exact m
theorem Mod.dropped {w w0 : World} {S : Asn} (A : Asn) {R : Asn} [m : Mod w w0 S] [t : Pull S A R] : Mod w w0 R := Mod.drop (A := A) (m := Mod.pull A)
/-- What is said of the world at a call. -/
theorem calls_mod {P : Program} {f : FuncId} {args : Array Value} {w w0 : World} {S : Asn} {Q : Ending → World → Prop} [m : Mod w w0 S] (h : Mod w w0 S → Calls P f args w Q) : Calls P f args w Q := h m
theorem wpList_mod {P : Program} {ops : Array Oper} {l : List Oper} {a : Act} {w w0 : World} {S : Asn} {Q : Exit → Act → World → Prop} [m : Mod w w0 S] (h : Mod w w0 S → wpList P ops Q l a w) : wpList P ops Q l a w := h m
instance HpSize.drewN (w : World) (n k : Nat) [h : HpSize w n] : HpSize (w.drewN k) n := ⟨h.eq⟩
theorem wp_mod {P : Program} {o : Oper} {a : Act} {w w0 : World} {S : Asn} {K : Act → World → Prop} {Q : Exit → Act → World → Prop} [m : Mod w w0 S] (h : Mod w w0 S → o.wp P a w K Q) : o.wp P a w K Q := h m
theorem calls_gen {P : Program} {f : FuncId} {args : Array Value} {w w0 : World} {S : Asn} {Q : Ending → World → Prop} [m : Mod w w0 S] (h : ∀ u, Mod u w0 S → Calls P f args u Q) : Calls P f args w Q := h w m
theorem row_none_n {w w0 : World} {F : Asn} {e size : Nat} (m : Mod w w0 F) : Mod w w0 (rowA e size (.slice none 0 0) 0 [] * F) := by
  refine Mod.conv (S := emp * F) (m := by rw [emp_sep]; exact m) fun _ h => sep_imp (A := emp) (fun y hy => ?_) h
  have hy : y = Hp.none := hy
  subst hy; exact rowA_nil _ _
theorem row_len_cap {w w0 : World} {F : Asn} {e size n c : Nat} {A : Option Addr} {xs : List Value} (m : Mod w w0 (rowA e size (.slice A n c) n xs * F)) : n ≤ c := by
  rcases (owns_of_row m).2 with ⟨h, h2⟩ | ⟨g, cap, cur, h, _, _, h1, _⟩
  · omega
  · injection h with _ _ h3; omega
end Go.Sl
namespace Go.Proofs.YtkdiejbpleojnaaGreatDoor
open Go.RowKit Go.Sl
attribute [local go_sem] cell_of frozen_of zero_names
theorem clipMsg_spec (A : Option Addr) (n c : Nat) (w w0 : World) (S : Asn) (m : Mod w w0 S) (h : n ≤ c) : Calls Tryz.prog 129 #[.slice A n c] w fun e w' => e = .returned (.slice A n n) ∧ Mod w' w0 S := by
  have h1 : (n : Int) ≤ (c : Int) := by omega
  have h0 : (0 : Int) ≤ (n : Int) := by omega
  go_enter Tryz.func129, Tryz.ntmps129
  go_wp2
  go_ret
  exact ⟨rfl, m⟩
theorem clipU8_spec (A : Option Addr) (n c : Nat) (w w0 : World) (S : Asn) (m : Mod w w0 S) (h : n ≤ c) : Calls Tryz.prog 138 #[.slice A n c] w fun e w' => e = .returned (.slice A n n) ∧ Mod w' w0 S := by
  have h1 : (n : Int) ≤ (c : Int) := by omega
  have h0 : (0 : Int) ≤ (n : Int) := by omega
  go_enter Tryz.func138, Tryz.ntmps138
  go_wp2
  go_ret
  exact ⟨rfl, m⟩
theorem clipU64_spec (A : Option Addr) (n c : Nat) (w w0 : World) (S : Asn) (m : Mod w w0 S) (h : n ≤ c) : Calls Tryz.prog 206 #[.slice A n c] w fun e w' => e = .returned (.slice A n n) ∧ Mod w' w0 S := by
  have h1 : (n : Int) ≤ (c : Int) := by omega
  have h0 : (0 : Int) ≤ (n : Int) := by omega
  go_enter Tryz.func206, Tryz.ntmps206
  go_wp2
  go_ret
  exact ⟨rfl, m⟩
@[local go_sem] theorem eql_nil_u64s (w : World) (a : Option Addr) (n c n' c' : Nat) : (binOp .eql 91 (.slice a n c) (.slice none n' c')).run Tryz.prog w = .ok (.bool a.isNone) w := Lib.run_eql_slice_nil w 91 90 a n c n' c' (by kernel_rfl)
set_option maxRecDepth 4000 in
theorem clone_u64s (A : Option Addr) (k c : Nat) (xs : List Value) (w w0 : World) (S : Asn) (m : Mod w w0 S) (r : Reads S A k xs) (h1 : ∀ u ∈ xs, u.oneCell' = true) (hk : k ≤ 17592186044416) :
    Calls Tryz.prog 136 #[.slice A k c] w fun e w' => ∃ A' c', e = .returned (.slice A' k c') ∧ Mod w' w0 (rowA 90 1 (.slice A' k c') k xs * S) := by
  have hlen := reads_len m r
  cases A with
  | none =>
    have hk0 : k = 0 := by
      rcases Nat.eq_zero_or_pos k with h | h
      · exact h
      · obtain ⟨ad, ha, _⟩ := reads_cell m r h; cases ha
    subst hk0
    have hxs : xs = [] := List.eq_nil_of_length_eq_zero hlen
    subst hxs
    go_enter Tryz.func136, Tryz.ntmps136
    go_wp2
    go_ret
    exact ⟨none, 0, rfl, row_none_n m⟩
  | some ad =>
    go_enter Tryz.func136, Tryz.ntmps136
    go_wp2_with (at_builtin; (refine wpList_append (v := .slice (some ⟨w.heap.size, 0, none⟩) 0 0) (A := some ad) (k := k) (c := c) rfl rfl (row_made (e := 90) inferInstance) rfl rfl h1 (by unfold maxLen; omega) (by omega) ?_); intro A' c' w3 _m3)
    go_ret
    simp only [Nat.zero_add, List.nil_append, emp_sep] at _m3 ⊢
    exact ⟨A', c', rfl, _m3⟩
end Go.Proofs.YtkdiejbpleojnaaGreatDoor
namespace Go.Sl
theorem nodup_le : ∀ (k : Nat) (l : List Nat), l.Nodup → (∀ x ∈ l, 1 ≤ x ∧ x ≤ k) → l.length ≤ k
  | 0, [], _, _ => Nat.le_refl _
  | 0, x :: l, _, h => by have := h x (List.mem_cons_self ..); omega
  | k + 1, l, hn, h => by
    have h1 : (l.erase (k + 1)).length ≤ k := nodup_le k _ (hn.erase _) fun x hx => by
      have h2 := h x (List.mem_of_mem_erase hx)
      have h3 : x ≠ k + 1 := fun e => by subst e; exact List.Nodup.not_mem_erase hn hx
      omega
    have := List.length_erase (a := k + 1) (l := l)
    split at this <;> omega
theorem nodup_of_take {l : List Nat} (h : ∀ t, t < l.length → l.getD t 0 ∉ l.take t) : l.Nodup := by
  rw [List.nodup_iff_pairwise_ne, List.pairwise_iff_getElem]
  intro i j hi hj hij e
  have := h j hj
  rw [List.getD_eq_getElem?_getD, List.getElem?_eq_getElem hj, Option.getD_some, ← e] at this
  exact this (List.mem_take_iff_getElem.2 ⟨i, by omega, rfl⟩)
/-- Those of a chain are nodes, each once. -/
def OnceIn (l : List Nat) : Prop := l.Nodup ∧ ∀ x ∈ l, 1 ≤ x ∧ x ≤ 4
theorem OnceIn.le {l : List Nat} (h : OnceIn l) : l.length ≤ 4 := nodup_le 4 l h.1 h.2
theorem OnceIn.sub {l l' : List Nat} (h : OnceIn l) (s : l'.Sublist l) : OnceIn l' := ⟨h.1.sublist s, fun x hx => h.2 x (s.subset hx)⟩
theorem once_of {l : List Nat} (h : ∀ t, t < l.length → 1 ≤ l.getD t 0 ∧ l.getD t 0 ≤ 4 ∧ l.getD t 0 ∉ l.take t) : OnceIn l := by
  refine ⟨nodup_of_take fun t ht => (h t ht).2.2, fun x hx => ?_⟩
  obtain ⟨i, hi, rfl⟩ := List.getElem_of_mem hx
  have := h i hi
  rw [List.getD_eq_getElem?_getD, List.getElem?_eq_getElem hi, Option.getD_some] at this
  exact ⟨this.1, this.2.1⟩
theorem joinOk_once {nodes join : List Nat} (h : joinOk nodes join) (hn : OnceIn nodes) : OnceIn (nodes ++ join) := by
  have hj : OnceIn join := once_of fun t ht => by have := h.1 t ht; exact ⟨this.1, this.2.1, this.2.2.2⟩
  refine ⟨?_, fun x hx => ?_⟩
  · rw [List.nodup_append]
    refine ⟨hn.1, hj.1, fun a ha b hb e => ?_⟩
    subst e
    obtain ⟨i, hi, rfl⟩ := List.getElem_of_mem hb
    have := (h.1 i hi).2.2.1
    rw [List.getD_eq_getElem?_getD, List.getElem?_eq_getElem hi, Option.getD_some] at this
    exact this ha
  · rcases List.mem_append.1 hx with h1 | h1
    · exact hn.2 x h1
    · exact hj.2 x h1
/-- What is known has just these as its chain. -/
structure ChainOf (k : Kn) (l : List Nat) : Prop where
  chain : k.chain = l ++ List.replicate (4 - l.length) 0
  many : k.many = l.length
  once : OnceIn l
theorem ChainOf.nodes {k : Kn} {l : List Nat} (h : ChainOf k l) : k.nodes = l := by
  have hl := h.once.le
  unfold Kn.nodes Kn.four Kn.c
  rw [h.chain, h.many]
  match l, hl with
  | [], _ => rfl
  | [a], _ => rfl
  | [a, b], _ => rfl
  | [a, b, c], _ => rfl
  | [a, b, c, d], _ => rfl
theorem ChainOf.c {k : Kn} {l : List Nat} (h : ChainOf k l) (i : Nat) : k.c i = l.getD i 0 := by
  unfold Kn.c
  rw [h.chain, List.getD_eq_getElem?_getD, List.getD_eq_getElem?_getD]
  by_cases hi : i < l.length
  · rw [List.getElem?_append_left hi]
  · rw [List.getElem?_append_right (by omega), List.getElem?_eq_none (l := l) (by omega), List.getElem?_replicate]
    split <;> rfl
theorem ChainOf.c4 {k : Kn} {l : List Nat} (h : ChainOf k l) (i : Nat) : k.c i ≤ 4 := by
  rw [h.c, List.getD_eq_getElem?_getD]
  cases hi : l[i]? with
  | none => simp
  | some x => have := h.once.2 x (List.mem_of_getElem? hi); simp; omega
theorem ChainOf.put {k : Kn} {l : List Nat} (h : ChainOf k l) {n has : Nat} (ho : OnceIn (l ++ [n])) : ChainOf (k.put n has) (l ++ [n]) := by
  refine ⟨?_, by show k.many + 1 = _; rw [h.many, List.length_append]; rfl, ho⟩
  have hl : l.length ≤ 3 := by have := ho.le; rw [List.length_append] at this; exact Nat.le_of_succ_le_succ this
  show k.chain.set k.many n = _
  rw [h.chain, h.many]
  match l, hl with
  | [], _ => rfl
  | [a], _ => rfl
  | [a, b], _ => rfl
  | [a, b, c], _ => rfl
/-- It may be known. -/
theorem may_of {k : Kn} {l : List Nat} (h : ChainOf k l) (hh : k.holder ≤ 4) (he : k.epoch ≤ k.most) : KnMay k := by
  have hl := h.once.le
  have hn := h.once.1
  have hx := h.once.2
  refine ⟨fun x hxm => ?_, fun i hi => ?_, fun i hi hp => ?_, hh, he⟩
  · rw [h.chain] at hxm
    rcases List.mem_append.1 hxm with h1 | h1
    · exact (hx x h1).2
    · rw [List.eq_of_mem_replicate h1]; omega
  · by_cases hil : i < l.length
    · have e : k.chain[i] = l[i] := by simp only [h.chain]; rw [List.getElem_append_left hil]
      rw [e, h.many]
      have := (hx _ (List.getElem_mem hil)).1
      omega
    · have e : k.chain[i] = 0 := by simp only [h.chain]; rw [List.getElem_append_right (by omega), List.getElem_replicate]
      rw [e, h.many]; omega
  · by_cases hil : i < l.length
    · have e : k.chain[i] = l[i] := by simp only [h.chain]; rw [List.getElem_append_left hil]
      rw [e, h.chain, List.take_append_of_le_length (by omega)]
      intro hm
      obtain ⟨j, hj, e2⟩ := List.mem_take_iff_getElem.1 hm
      have := (List.nodup_iff_pairwise_ne.1 hn)
      rw [List.pairwise_iff_getElem] at this
      exact this j i (by omega) hil (by omega) e2
    · have e : k.chain[i] = 0 := by simp only [h.chain]; rw [List.getElem_append_right (by omega), List.getElem_replicate]
      omega
theorem base_chain (k : Kn) : ChainOf k.base [] := ⟨rfl, rfl, List.nodup_nil, by simp⟩
/-- The chain's members that have all. -/
def Dp.kept (s : Dp) (i : Nat) : List Nat := ((List.range i).filter s.allB).map s.kn.c
theorem Dp.kept_succ (s : Dp) (i : Nat) : s.kept (i + 1) = if s.allB i then s.kept i ++ [s.kn.c i] else s.kept i := by
  unfold Dp.kept
  rw [List.range_succ, List.filter_append, List.map_append]
  cases h : s.allB i <;> simp [h]
theorem nodes_map {k : Kn} (h : k.many ≤ 4) : k.nodes = (List.range k.many).map k.c := by
  have hc : k.many = 0 ∨ k.many = 1 ∨ k.many = 2 ∨ k.many = 3 ∨ k.many = 4 := by omega
  unfold Kn.nodes Kn.four
  rcases hc with h | h | h | h | h <;> rw [h] <;> rfl
theorem Dp.kept_sub (s : Dp) {i : Nat} (hi : i ≤ s.kn.many) (hm : s.kn.many ≤ 4) : (s.kept i).Sublist s.kn.nodes := by
  rw [nodes_map hm]
  unfold Dp.kept
  refine (List.Sublist.map _ (List.filter_sublist (l := List.range i))).trans (List.Sublist.map _ ?_)
  exact List.range_sublist.2 hi
theorem Dp.keepN_chain (s : Dp) (h : OnceIn s.kn.nodes) (hm : s.kn.many ≤ 4) : ∀ i, i ≤ s.kn.many → ChainOf (s.keepN i) (s.kept i)
  | 0, _ => base_chain s.kn
  | i + 1, hi => by
    have ih := Dp.keepN_chain s h hm i (by omega)
    have hs := h.sub (s.kept_sub hi hm)
    rw [s.kept_succ] at hs ⊢
    unfold Dp.keepN
    split
    · rename_i h2; rw [if_pos h2] at hs; exact ih.put hs
    · exact ih
def Dp.joined (s : Dp) (i : Nat) : List Nat := (s.join.take i).filter fun n => (s.an n).isSome
theorem Dp.joined_succ (s : Dp) (i : Nat) (hi : i < s.join.length) : s.joined (i + 1) = if (s.an (s.join.getD i 0)).isSome then s.joined i ++ [s.join.getD i 0] else s.joined i := by
  have e : s.join.getD i 0 = s.join[i] := by rw [List.getD_eq_getElem?_getD, List.getElem?_eq_getElem hi]; rfl
  unfold Dp.joined
  rw [List.take_succ_eq_append_getElem hi, List.filter_append, e]
  cases h : (s.an s.join[i]).isSome <;> simp [h]
theorem Dp.joinN_chain (s : Dp) {k : Kn} {l : List Nat} (hk : ChainOf k l) (h : OnceIn (l ++ s.join)) : ∀ i, i ≤ s.join.length → ChainOf (s.joinN k i) (l ++ s.joined i)
  | 0, _ => by simpa [Dp.joined, Dp.joinN] using hk
  | i + 1, hi => by
    have ih := Dp.joinN_chain s hk h i (by omega)
    have hs : OnceIn (l ++ s.joined (i + 1)) := h.sub (List.Sublist.append (List.Sublist.refl _) (List.filter_sublist.trans (List.take_sublist _ _)))
    rw [s.joined_succ i (by omega)] at hs ⊢
    unfold Dp.joinN
    split
    · rename_i h2
      rw [if_pos h2, ← List.append_assoc] at hs
      rw [← List.append_assoc]
      exact ih.put hs
    · exact ih
end Go.Sl
namespace Go.Proofs.YtkdiejbpleojnaaGreatDoor
open Go.RowKit Go.Sl
attribute [local go_sem] cell_of frozen_of zero_names DecV.at0 DecV.at1 DecV.at2 DecV.at3 DecV.at4 DecV.at5 DecV.at6 DecV.at7 DecV.at8 DecV.at9 DecV.at10 DecV.at11 DecV.at12 DecV.at13 DecV.at14 DecV.at15 DecV.at16 DecV.at17 DecV.at18 DecV.at19 DecV.at20 DecV.at21 DecV.at22 DecV.at23 DecV.at24 DecV.at25 DecV.at26 DecV.at27 DecV.at28 DecV.at29 DecV.at30 DecV.at31 Kn.at0 Kn.at1 Kn.at2 Kn.at3 Kn.at4 Kn.at5 Kn.at6 Kn.at19 Kn.at20
/-- the message that a member is to stop -/
def sealMsg (to most : Nat) : Array Value := msg0 5 to most 0 0 0 0 0
def sealCells (l : List Nat) (most : Nat) : List Value := l.flatMap fun n => (sealMsg n most).toList
theorem one_seal (y most : Nat) : ∀ u ∈ (sealMsg y most).toList, u.oneCell' = true := List.all_eq_true.1 (show (sealMsg y most).toList.all (·.oneCell') = true from rfl)
theorem seal_snoc (l : List Nat) (y most : Nat) : sealCells (l ++ [y]) most = sealCells l most ++ (sealMsg y most).toList := by simp [sealCells]
/-- What Want leaves, of those that may join. -/
def WantSays (x : Nat) (v : DecV) (join : List Nat) (F : Asn) (w0 : World) (e : Ending) (w' : World) : Prop :=
  ∃ (v' : DecV) (D : DiskSt) (g j : Nat) (ks : List Kn) (b : List UInt8) (A : Option Addr) (c : Nat) (G : Asn), e = .returned (.tuple #[.slice A (v.kn.many + join.length) (v.kn.many + join.length), .int .i64 0]) ∧
    v'.pd = v.pd ∧ v'.pj = some j ∧ v'.kn = { v.kn with most := v.kn.most + 1 } ∧ v'.seals = true ∧ v'.jn = join.length ∧ v'.a0 = none ∧ v'.a1 = none ∧ v'.a2 = none ∧ v'.a3 = none ∧ v'.a4 = none ∧
    DecOk v' D g ks b ∧ Reads G v'.jA v'.jn (n8s join) ∧
    Mod w' w0 (decB x v' * (diskA v'.pd D * (jourA j v'.pd v'.name b.length * (G * (rowA 98 16 (.slice A (v.kn.many + join.length) c) (v.kn.many + join.length) (sealCells (v.kn.nodes ++ join) (v.kn.most + 1)) * F)))))
def _root_.Go.Sl.Kn.up (k : Kn) : Kn := { k with most := k.most + 1 }
instance HasKn.most1 (g : Nat) (k : Kn) (t : TypeId) (fr : Nat × Nat) : HasKn (Go.Sl.blk g (.cells (k.cells.setIfInBounds 1 (.int .u32 ((k.most : Int) + 1))) t fr)) g 0 k.up :=
  ⟨fun h hh => ⟨k.up.cells, t, fr, by rw [hh]; simp only [Hp.one, if_pos]; rfl, fun j v hv => by rwa [Nat.zero_add]⟩⟩
theorem up_ok {k : Kn} (h : KnOk k) (hm : k.most < 4294967295) : KnOk k.up := ⟨h.epoch, by show k.most + 1 < _; omega, h.index, h.holder, h.stamp, h.many, h.chainL, h.hadL, h.livesL, h.chain, h.had, h.lives, h.g0, h.g1⟩
theorem nodes_len {k : Kn} (h : k.many ≤ 4) : k.nodes.length = k.many := by simp [Kn.nodes, Kn.four, h]
theorem nodes_le (k : Kn) : k.nodes.length ≤ k.many := by simp [Kn.nodes]; omega
set_option maxRecDepth 4000 in
set_option maxHeartbeats 4000000 in
theorem want_spec (x j : Nat) (v : DecV) (D : DiskSt) (g : Nat) (ks : List Kn) (b : List UInt8) (A : Option Addr) (n c : Nat) (join : List Nat) (w w0 : World) (F : Asn) (hj : v.pj = some j) (ok : DecOk v D g ks b) (hk : KnOk v.kn) (hl : v.kn.lost = false) (hmost : v.kn.most < 4294967295)
    (m : Mod w w0 (decB x v * (diskA v.pd D * (jourA j v.pd v.name b.length * F)))) (r : Reads F A n (n8s join)) (hn : n ≤ c) (hn2 : n ≤ 140737488355328) (ho : OnceIn v.kn.nodes) (hmay : KnMay v.kn.up) : Calls Tryz.prog 50 #[ptr x, .slice A n c] w fun e w' =>
      (¬ joinOk v.kn.nodes join ∧ e = .returned (.tuple #[.slice none 0 0, .int .i64 1]) ∧ Mod w' w0 (decB x v * (diskA v.pd D * (jourA j v.pd v.name b.length * F)))) ∨ (joinOk v.kn.nodes join ∧ WantSays x v join F w0 e w') := by
  have Hok := Lib.hid ok
  have Ho := Lib.hid ho
  have Hmay := Lib.hid hmay
  clear ok ho hmay
  go_enter Tryz.func50, Tryz.ntmps50
  go_wp2_with (go_at_call 124; refine (dthere_spec x v _ w0 _ m).mono ?_; rintro e w1 ⟨rfl, m1⟩)
  have hjl : join.length = n := by have := reads_len m1 (reads_lift inferInstance r); simpa using this
  have hm4 : v.kn.many ≤ 4 := hk.many
  have hmi : (v.kn.many : Int) ≤ 4 := by omega
  have hm0 : (0 : Int) ≤ (v.kn.many : Int) := by omega
  go_loopg [4, 24] n (fun gk ov iv wr => ∃ i : Nat, i ≤ n ∧ gk = n - i ∧ ov = .slice none 0 0 ∧ iv = .int .i64 (i : Int) ∧ Hid (∀ t, t < i → 1 ≤ join.getD t 0 ∧ join.getD t 0 ≤ 4 ∧ join.getD t 0 ∉ v.kn.nodes ∧ join.getD t 0 ∉ join.take t) ∧ Mod wr w0 (decB x v * (diskA v.pd D * (jourA j v.pd v.name b.length * F))))
  case atStart => exact ⟨0, by omega, rfl, rfl, rfl, (fun t ht => by omega), m1⟩
  case round =>
    obtain ⟨i, hin, hgk, rfl, rfl, Hall, m2⟩ := hrel
    by_cases hlt : i < n
    · have hii : (i : Int) < (n : Int) := by omega
      obtain ⟨ad, hA, hsp, hcl⟩ := reads_cell m2 (reads_lift inferInstance r) (by omega)
      obtain ⟨bn, on_, sp⟩ := ad
      simp only at hsp
      subst hsp hA
      have hil : i < join.length := by omega
      have hx := hcl i (.int .u8 ((join[i] : Nat) : Int)) (by simp [hil])
      have hyd : Hid (join.getD i 0 = join[i]) := by show _ = _; rw [List.getD_eq_getElem?_getD, List.getElem?_eq_getElem hil]; rfl
      generalize join[i] = y at *
      clear hcl
      obtain ⟨SS, hSS, mSS⟩ : ∃ SS, SS = _ ∧ Mod wr w0 SS := ⟨_, rfl, m2⟩
      have hh : Has SS x (.cells v.cells 175 (0, 0)) := by rw [hSS]; infer_instance
      have rj : Reads SS (some ⟨bn, on_, none⟩) n (n8s join) := by rw [hSS]; exact reads_lift inferInstance r
      have HC1 : Hid (∀ u, Mod u w0 SS → Calls Tryz.prog 125 #[.slice (some ⟨x, 11, none⟩) v.kn.many 4, .int .u8 (y : Int)] u fun e w' => e = .returned (.bool (decide (y ∈ v.kn.nodes))) ∧ Mod w' w0 SS) := fun u mu => contains_spec _ _ _ _ y u w0 SS mu (reads_nodes hh hm4) (by omega)
      have HC2 : Hid (∀ u, Mod u w0 SS → Calls Tryz.prog 125 #[.slice (some ⟨bn, on_, none⟩) i c, .int .u8 (y : Int)] u fun e w' => e = .returned (.bool (decide (y ∈ join.take i))) ∧ Mod w' w0 SS) := fun u mu => contains_spec _ _ _ _ y u w0 SS mu (by have := rj.pre i hin; rw [← List.map_take] at this; exact this) (by omega)
      have HSS := Lib.hid hSS
      clear hSS m2
      have hic : (i : Int) ≤ (c : Int) := by omega
      have hi0 : (0 : Int) ≤ (i : Int) := by omega
      have hfive : decide ((y : Int) < 1) = true ∨ (decide ((y : Int) < 1) = false ∧ decide ((4 : Int) < (y : Int)) = true) ∨ (decide ((y : Int) < 1) = false ∧ decide ((4 : Int) < (y : Int)) = false ∧ decide (y ∈ v.kn.nodes) = true) ∨ (decide ((y : Int) < 1) = false ∧ decide ((4 : Int) < (y : Int)) = false ∧ decide (y ∈ v.kn.nodes) = false ∧ decide (y ∈ join.take i) = true) ∨ (decide ((y : Int) < 1) = false ∧ decide ((4 : Int) < (y : Int)) = false ∧ decide (y ∈ v.kn.nodes) = false ∧ decide (y ∈ join.take i) = false) := by
        cases decide ((y : Int) < 1) <;> cases decide ((4 : Int) < (y : Int)) <;> cases decide (y ∈ v.kn.nodes) <;> cases decide (y ∈ join.take i) <;> simp
      have Hbad : Hid (joinOk v.kn.nodes join → 1 ≤ y ∧ y ≤ 4 ∧ y ∉ v.kn.nodes ∧ y ∉ join.take i) := fun hj => by have := hj.1 i hil; rw [hyd.out] at this; exact this
      rcases hfive with hA | ⟨hA, hB⟩ | ⟨hA, hB, hC⟩ | ⟨hA, hB, hC, hD⟩ | ⟨hA, hB, hC, hD⟩
      rotate_left 4
      · go_wp2_with fail
        have := Held.some mSS
        refine wp_region_mod mSS (by kernel_rfl) (by kernel_rfl) ?_
        repeat (go_big_quiet_step (first | (go_at_call 125; first | (refine quiet_call (HC1.out _ ?_); exact inferInstance) | (refine quiet_call (HC2.out _ ?_); exact inferInstance))))
        refine wpQuiet_nil ?_
        rintro w3 ⟨s, rfl⟩
        have m3 := Mod.to (m := s.mod) HSS.out
        clear mSS hh rj HC1 HC2 HSS this
        generalize s.world = w3 at *
        go_wp2_with fail
        go_roundg (n - (i + 1))
        case measure => omega
        case rel =>
          refine ⟨i + 1, by omega, rfl, rfl, by go_num, ?_, m3⟩
          show ∀ t, _
          intro t ht
          rcases Nat.lt_or_ge t i with h | h
          · exact Hall.out t h
          · obtain rfl : t = i := by omega
            rw [hyd.out]
            exact ⟨by have := of_decide_eq_false hA; omega, by have := of_decide_eq_false hB; omega, of_decide_eq_false hC, of_decide_eq_false hD⟩
      all_goals
        go_wp2_with fail
        have := Held.some mSS
        refine wp_region_mod mSS (by kernel_rfl) (by kernel_rfl) ?_
        repeat (go_big_quiet_step (first | (go_at_call 125; first | (refine quiet_call (HC1.out _ ?_); exact inferInstance) | (refine quiet_call (HC2.out _ ?_); exact inferInstance))))
        refine wpQuiet_nil ?_
        rintro w3 ⟨s, rfl⟩
        have m3 := Mod.to (m := s.mod) HSS.out
        clear mSS hh rj HC1 HC2 HSS this
        generalize s.world = w3 at *
        go_wp2_with fail
        go_ret2
        refine .inl ⟨fun hj => ?_, rfl, m3⟩
        obtain ⟨g1, g2, g3, g4⟩ := Hbad.out hj
        first | exact g3 (of_decide_eq_true hC) | exact g4 (of_decide_eq_true hD) | (have := of_decide_eq_true hB; omega) | (have := of_decide_eq_true hA; omega)
    · have hi : i = n := by omega
      subst hi
      have hii : ¬ ((i : Int) < (i : Int)) := by omega
      by_cases hz : i + v.kn.many = 0
      · have hzi : ((i : Int) + (v.kn.many : Int) == 0) = true := by rw [beq_iff_eq]; omega
        go_wp2_with fail
        go_ret2
        exact .inl ⟨fun hj => by have := hj.2; have := nodes_le v.kn; omega, rfl, m2⟩
      · have hzi : ((i : Int) + (v.kn.many : Int) == 0) = false := beq_eq_false_iff_ne.2 (by omega)
        have HJ : Hid (joinOk v.kn.nodes join) := by
          refine ⟨fun t ht => Hall.out t (by omega), ?_⟩
          rw [nodes_len hm4]; omega
        have hi4 : i ≤ 4 := by have := (joinOk_once HJ.out Ho.out).le; rw [List.length_append, hjl] at this; omega
        clear Hall hlt hz
        have hw : IntKind.u32.wrap ((v.kn.most : Int) + 1) = (v.kn.most : Int) + 1 := by rw [IntKind.wrap_u32]; omega
        go_wp2_with first | (refine wpList_load_kn rfl rfl rfl ?_) | (refine wpList_store_kn0 rfl rfl rfl rfl rfl ?_; intro w3 m3)
        have m4 : Mod (w3.setCell ⟨wr.heap.size, 1, none⟩ (.int .u32 ((v.kn.most : Int) + 1))) w0 _ := inferInstance
        simp only [emp_sep] at m4
        refine (keeps_spec x j v D g ks b v.kn.up ⟨up_ok hk hmost, Hmay.out⟩ _ w0 _ hj Hok.out (Mod.pull3 (decB x v) (diskA v.pd D) (jourA j v.pd v.name b.length))).mono ?_
        rintro e w5 ⟨rfl, D2, g2, j2, ks2, b2, nm, nl, ok2, m5⟩
        have Hok2 := Lib.hid ok2
        replace m5 := Mod.dropped (blk wr.heap.size (.cells (v.kn.cells.setIfInBounds 1 (.int .u32 ((v.kn.most : Int) + 1))) 171)) (m := m5)
        clear m m1 m2 m3 m4 Hok ok2
        go_wp2_with fail
        refine (clone_bytes A i c (n8s join) w5 w0 _ m5 (reads_lift inferInstance r) (one_n8s _) (by omega)).mono ?_
        rintro e w6 ⟨A6, c6, rfl, m6⟩
        clear m5
        go_wp2_with fail
        refine calls_gen (w0 := w0) ?_
        intro w7 m7
        simp only [emp_sep] at m7
        obtain ⟨v7, hv7⟩ : ∃ v7 : DecV, v7 = { v with pj := some j2, name := nm, lines := nl, kn := v.kn.up, seals := true, jA := A6, jn := i, jc := c6, a0 := none, a1 := none, a2 := none, a3 := none, a4 := none } := ⟨_, rfl⟩
        have m8 : Mod w7 w0 (decB x v7 * _) := Mod.to (m := m7) (by subst hv7; rfl)
        have Hv7 := Lib.hid hv7
        have hM := members_spec x v7 join w7 w0 _ m8 inferInstance (by rw [hv7]; exact hm4) (by rw [hv7]; exact reads_lift inferInstance (Reads.row 5 A6 i c6 (n8s join))) (by rw [hv7]; show i ≤ 1000000; omega)
        rw [show v7.kn.many = v.kn.many by rw [hv7]; rfl, show v7.jn = i by rw [hv7], show v7.kn.nodes = v.kn.nodes by rw [hv7]; rfl] at hM
        clear hv7 m6 m7
        refine hM.mono ?_
        rintro e w9 ⟨A9, c9, rfl, m9⟩
        clear hM m8
        go_wp2_with fail
        obtain ⟨N, hN⟩ : ∃ N, v.kn.many + i = N := ⟨_, rfl⟩
        obtain ⟨L, hL⟩ : ∃ L, v.kn.nodes ++ join = L := ⟨_, rfl⟩
        have hLl : L.length = N := by rw [← hL, List.length_append, nodes_len hm4, hjl, hN]
        rw [hL, hN] at m9
        obtain ⟨R9, hR9⟩ : ∃ R, R = rowA 5 1 (.slice A6 i c6) i (n8s join) * (diskA v.pd D2 * (jourA j2 v.pd nm b2.length * F)) := ⟨_, rfl⟩
        rw [← hR9] at m9
        have hN2 : N ≤ 1000004 := by omega
        have HN := Lib.hid hN
        have HL := Lib.hid hL
        have HR9 := Lib.hid hR9
        have hNi : (N : Int) = (v.kn.many : Int) + (i : Int) := by omega
        clear hN hL hR9
        go_loopg [4, 95] N (fun gk ov iv wr => ∃ (t : Nat) (B : Option Addr) (cB : Nat), t ≤ N ∧ gk = N - t ∧ ov = .slice B t cB ∧ iv = .int .i64 (t : Int) ∧ Mod wr w0 (rowA 98 16 (.slice B t cB) t (sealCells (L.take t) (v.kn.most + 1)) * (rowA 5 1 (.slice A9 N c9) N (n8s L) * (decB x v7 * R9))))
        case atStart => exact ⟨0, none, 0, by omega, rfl, rfl, rfl, row_none_n m9⟩
        case round =>
          obtain ⟨t, B, cB, ht, hgk2, rfl, rfl, m10⟩ := hrel
          by_cases hlt : t < N
          · have hii2 : (t : Int) < (N : Int) := by omega
            obtain ⟨ad, hA, hsp, hcl⟩ := reads_cell m10 (inferInstance : Reads _ A9 N (n8s L)) (by omega)
            obtain ⟨bn, on_, sp⟩ := ad
            simp only at hsp
            subst hsp hA
            have htl : t < L.length := by omega
            have hx := hcl t (.int .u8 ((L[t] : Nat) : Int)) (by simp [htl])
            have HT : Hid (L.take (t + 1) = L.take t ++ [L[t]]) := List.take_succ_eq_append_getElem htl
            generalize L[t] = y at *
            clear hcl
            have hS := seal_spec x v7 y wr w0 _ m10
            rw [show v7.kn.most = v.kn.most + 1 by rw [Hv7.out]; rfl] at hS
            go_wp2_with first | (go_at_call 128; refine hS.mono ?_; rintro e w11 ⟨rfl, m11⟩) | (refine wpList_build_one (t := 101) (e := 98) (size := 16) (bytes := 192) (cs := sealMsg y (v.kn.most + 1)) rfl rfl rfl rfl (by decide) ?_) | (at_builtin; refine wpList_mod (w0 := w0) ?_; intro mw; have mx := Mod.pull (m := mw) (rowA 98 16 (.slice B t cB) t (sealCells (L.take t) (v.kn.most + 1))); refine wpList_append_n (t := 101) (e := 98) (size := 16) (bytes := 192) (k := 1) (c := 1) (A := ⟨w11.heap.size, 0, none⟩) (news := (sealMsg y (v.kn.most + 1)).toList) rfl rfl mx rfl rfl (reads_blk rfl rfl) (by decide) (one_seal y _) (by unfold maxLen; omega) (by omega) ?_; clear mw mx; intro A' c' w12 m12)
            have m13 : Mod w12 w0 _ := Mod.dropped (blk w11.heap.size (.cells (sealMsg y (v.kn.most + 1)) 98)) (m := m12)
            rw [← seal_snoc, ← HT.out] at m13
            go_roundg (N - (t + 1))
            case measure => omega
            case rel => exact ⟨t + 1, A', c', by omega, rfl, rfl, by go_num, m13⟩
          · have htN : t = N := by omega
            subst htN
            have hcap := row_len_cap m10
            have HL2 : Hid (L.take t = L) := List.take_of_length_le (by omega)
            rw [HL2.out] at m10
            go_wp2_with (go_at_call 129; refine (clipMsg_spec B t cB wr w0 _ m10 hcap).mono ?_; rintro e w14 ⟨rfl, m14⟩)
            have hNi2 := HN.out
            clear hNi hii
            go_ret2
            have hv := Hv7.out
            refine .inr ⟨HJ.out, v7, D2, g2, j2, ks2, b2, B, cB, rowA 5 1 (.slice A6 i c6) i (n8s join), ?_, by rw [hv], by rw [hv], by rw [hv]; rfl, by rw [hv], by rw [hv]; exact hjl.symm, by rw [hv], by rw [hv], by rw [hv], by rw [hv], by rw [hv], ?_, ?_, ?_⟩
            · rw [← hNi2, hjl]; rfl
            · obtain ⟨q1, q2, q3, q4, q5, q6, q7, q8, q9, q10⟩ := Hok2.out
              rw [hv]; exact ⟨q1, q2, q3, q4, q5, q6, q7, q8, q9, q10⟩
            · rw [hv]; exact Reads.row 5 A6 i c6 (n8s join)
            · rw [show v7.pd = v.pd by rw [hv], show v7.name = nm by rw [hv], hjl, HN.out, HL.out]
              exact Mod.drop (A := rowA 5 1 (.slice A9 t c9) t (n8s L)) (m := Mod.to (m := m14) (by rw [HR9.out]; ac_rfl))
end Go.Proofs.YtkdiejbpleojnaaGreatDoor
