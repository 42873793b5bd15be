/- Acts with a decider that came in, read: plain lemmas. -/
import Derived.Test.YtkdiejbpleojnaaGreatDoorSizes3
namespace Go.Proofs.YtkdiejbpleojnaaGreatDoor
open Go.ChangeShapes Go.WideShapes Go.ChangeAt Go.RowKit Go.Sl Go.Deep
/-- an act with a decider -/
structure Act19V where
  kind : Nat
  jA : Option Addr
  jn : Nat
  jc : Nat
  join : List Nat
  y : MsgV
  has : List Nat
  keep : Int
  names : Bool
def Act19V.cells (a : Act19V) : List Value := .int .u8 (a.kind : Int) :: .slice a.jA a.jn a.jc :: (a.y.cells.toList ++ [.int .i64 a.keep, .bool a.names])
structure Act19Ok (S : Asn) (a : Act19V) : Prop where
  kind : a.kind < 256
  rd : Reads S a.jA a.jn (n8s a.join)
  le : a.jn ≤ a.jc
  small : a.jn ≤ 140737488355328
  msg : MsgOk S a.y a.has
  keepLo : -9223372036854775808 ≤ a.keep
  keepHi : a.keep ≤ 9223372036854775807
theorem Act19Ok.lift {S' S : Asn} {a : Act19V} (s : Sub S' S) (h : Act19Ok S a) : Act19Ok S' a := ⟨h.kind, reads_lift s h.rd, h.le, h.small, h.msg.lift s, h.keepLo, h.keepHi⟩
structure ReadsActs19 (S : Asn) (A : Option Addr) (n : Nat) (l : List Act19V) : Prop where
  len : l.length = n
  cells : Reads S A (n * 20) (l.flatMap Act19V.cells)
  each : ∀ a ∈ l, Act19Ok S a
theorem ReadsActs19.lift {S' S : Asn} {A : Option Addr} {n : Nat} {l : List Act19V} (s : Sub S' S) (r : ReadsActs19 S A n l) : ReadsActs19 S' A n l := ⟨r.len, reads_lift s r.cells, fun a ha => (r.each a ha).lift s⟩
theorem act19_flat : ∀ (l : List Act19V) (i : Nat) (v : Value), (l.flatMap Act19V.cells)[i]? = some v → ∃ h : i / 20 < l.length, l[i / 20].cells[i % 20]? = some v
  | [], i, _, h => by simp at h
  | x :: l, i, v, h => by
    have hl : x.cells.length = 20 := rfl
    rw [List.flatMap_cons] at h
    by_cases hi : i < 20
    · rw [List.getElem?_append_left (by rw [hl]; exact hi)] at h
      have e1 : i / 20 = 0 := by omega
      have e2 : i % 20 = i := by omega
      refine ⟨by rw [e1]; simp, ?_⟩
      simp only [e1, e2, List.getElem_cons_zero]
      exact h
    · rw [List.getElem?_append_right (by rw [hl]; omega), hl] at h
      obtain ⟨h1, h2⟩ := act19_flat l (i - 20) v h
      have e1 : i / 20 = (i - 20) / 20 + 1 := by omega
      have e2 : i % 20 = (i - 20) % 20 := by omega
      refine ⟨by rw [e1, List.length_cons]; omega, ?_⟩
      simp only [e1, e2, List.getElem_cons_succ]
      exact h2
theorem act19_cell : ∀ (l : List Act19V) (k j : Nat) (v : Value) (h : k < l.length), l[k].cells[j]? = some v → (l.flatMap Act19V.cells)[k * 20 + j]? = some v
  | [], k, _, _, h, _ => by simp at h
  | x :: l, 0, j, v, _, hv => by
    simp only [List.getElem_cons_zero] at hv
    rw [List.flatMap_cons, Nat.zero_mul, Nat.zero_add, List.getElem?_append_left (List.getElem?_eq_some_iff.1 hv).1]
    exact hv
  | x :: l, k + 1, j, v, h, hv => by
    have hl : x.cells.length = 20 := rfl
    rw [List.flatMap_cons, List.getElem?_append_right (by rw [hl]; omega), hl, show (k + 1) * 20 + j - 20 = k * 20 + j by omega]
    exact act19_cell l k j v (by simpa using h) (by simpa using hv)
section
variable {H : Type} {enc : TypeId × Value → H} {W : World} {base : Nat} {held : Bool}
structure MsgOf (W : World) (H : Type) (cs : List Value) (d : DataW H) (y : MsgV) (has : List Nat) : Prop where
  cell : cs = y.cells.toList
  say : y.say < 256
  from_ : y.from_ < 256
  to : y.to < 256
  epoch : y.epoch < 4294967296
  haN : y.haN = has.length
  rd : Reads (just (hp W)) y.haA y.haN (has.map vu64)
  ok : AnsOk (y.ans has)
  one : ∀ v ∈ y.cells.toList, v.oneCell' = true
  data : ∃ d0 d1 d2 d3 d4 d5 d6 d7 d8 d9 d10 d11 d12 d13, d = .agg [d0, d1, d2, d3, d4, d5, d6, d7, d8, d9, d10, d11, d12, d13] ∧ (has = [] ∨ ∃ el sp, d9 = .slice el sp ∧ el.length = has.length)
set_option maxRecDepth 100000 in
set_option maxHeartbeats 1000000 in
theorem msg_of {fuel : Nat} {cs : List Value} {x : DataW H × List MemPlace} (h2 : DataW.trod enc Tryz.prog W base (fun _ => true) held fuel 98 cs = some x) : ∃ y has, MsgOf W H cs x.1 y has := by
  obtain ⟨xs, k, hk, hxy, hlen, hxl, hf⟩ := DataW.trod_struct Tryz.underlying98 h2
  rw [cells_msg] at hlen
  match xs, hxl, cs, hlen with
  | [y0, y1, y2, y3, y4, y5, y6, y7, y8, y9, y10, y11, y12, y13], _, [v0, v1, v2, v3, v4, v5, v6, v7, v8, v9, v10, v11, v12, v13, v14, v15], _ =>
    have g0 := hf 0 _ rfl
    have g1 := hf 1 _ rfl
    have g2 := hf 2 _ rfl
    have g3 := hf 3 _ rfl
    have g4 := hf 4 _ rfl
    have g5 := hf 5 _ rfl
    have g6 := hf 6 _ rfl
    have g7 := hf 7 _ rfl
    have g8 := hf 8 _ rfl
    have g9 := hf 9 _ rfl
    have g10 := hf 10 _ rfl
    have g11 := hf 11 _ rfl
    have g12 := hf 12 _ rfl
    have g13 := hf 13 _ rfl
    simp [cells_u8, cells_say, cells_u32, cells_level, cells_u64, cells_bytes, cells_u64s, cells_items, cells_rows, cells_saids, cells_reply] at g0 g1 g2 g3 g4 g5 g6 g7 g8 g9 g10 g11 g12 g13
    obtain ⟨n0, e0, x0, w0⟩ := DataW.trod_int Tryz.underlying88 g0
    obtain ⟨n1, e1, x1, w1⟩ := DataW.trod_int Tryz.underlying5 g1
    obtain ⟨n2, e2, x2, w2⟩ := DataW.trod_int Tryz.underlying5 g2
    obtain ⟨n3, e3, x3, w3⟩ := DataW.trod_int Tryz.underlying87 g3
    obtain ⟨n4, e4, x4, w4⟩ := DataW.trod_int Tryz.underlying89 g4
    obtain ⟨n5, e5, x5, w5⟩ := DataW.trod_int Tryz.underlying87 g5
    obtain ⟨n6, e6, x6, w6⟩ := DataW.trod_int Tryz.underlying90 g6
    obtain ⟨n7, e7, x7, w7⟩ := DataW.trod_int Tryz.underlying90 g7
    obtain ⟨a8, m8, c8, e8⟩ := any_slice Tryz.underlying46 g8
    obtain ⟨a9, c9, b9, e9, r9, s9, x9⟩ := u64s_cell g9
    obtain ⟨a10, m10, c10, e10⟩ := any_slice Tryz.underlying92 g10
    obtain ⟨a11, m11, c11, e11⟩ := any_slice Tryz.underlying93 g11
    obtain ⟨a12, m12, c12, e12⟩ := any_slice Tryz.underlying94 g12
    obtain ⟨zs, k2, _, _, _, hzl, hz⟩ := DataW.trod_struct Tryz.underlying96 g13
    have z0 := hz 0 _ rfl
    have z1 := hz 1 _ rfl
    have z2 := hz 2 _ rfl
    match zs, hzl with
    | [t0, t1, t2], _ =>
      simp [cells_errno, cells_bool, cells_rows] at z0 z1 z2
      obtain ⟨n13, e13, x13, w13⟩ := DataW.trod_int Tryz.underlying25 z0
      obtain ⟨b14, e14, x14⟩ := DataW.trod_bool Tryz.underlying4 z1
      obtain ⟨a15, m15, c15, e15⟩ := any_slice Tryz.underlying93 z2
      simp at e0 e1 e2 e3 e4 e5 e6 e7 e13 e14
      obtain ⟨k0, rfl, hk0⟩ := wf_u8 w0
      obtain ⟨k1, rfl, hk1⟩ := wf_u8 w1
      obtain ⟨k2, rfl, hk2⟩ := wf_u8 w2
      obtain ⟨k3, rfl, hk3⟩ := wf_u32 w3
      obtain ⟨k4, rfl, hk4⟩ := wf_u8 w4
      obtain ⟨k5, rfl, hk5⟩ := wf_u32 w5
      obtain ⟨k6, rfl, hk6⟩ := wf_u64 w6
      obtain ⟨k7, rfl, hk7⟩ := wf_u64 w7
      subst e0 e1 e2 e3 e4 e5 e6 e7 e8 e9 e10 e11 e12 e13 e14 e15
      refine ⟨⟨k0, k1, k2, k3, k4, k5, k6, k7, a8, m8, c8, a9, b9.length, c9, .slice a10 m10 c10, .slice a11 m11 c11, .slice a12 m12 c12, .int .i64 n13, .bool b14, .slice a15 m15 c15⟩, b9, ?_, hk0, hk1, hk2, hk3, rfl, r9, ⟨hk5, hk4, hk6, hk7, s9⟩, ?_, y0.1, y1.1, y2.1, y3.1, y4.1, y5.1, y6.1, y7.1, y8.1, y9.1, y10.1, y11.1, y12.1, y13.1, ?_, x9⟩
      · rfl
      · exact List.all_eq_true.1 rfl
      · rw [hxy]; rfl
structure Act19At (W : World) (H : Type) (ad : Addr) (i : Nat) (d : DataW H) (a : Act19V) : Prop where
  cell : ∀ j v, a.cells[j]? = some v → W.cell? (ad.add (i * 20 + j)) = some v
  kind : a.kind < 256
  rd : Reads (just (hp W)) a.jA a.jn (n8s a.join)
  le : a.jn ≤ a.jc
  keepLo : -9223372036854775808 ≤ a.keep
  keepHi : a.keep ≤ 9223372036854775807
  data : ∃ d0 d1 d2 d3 d4, d = .agg [d0, d1, d2, d3, d4] ∧ (a.join = [] ∧ a.jn = 0 ∨ ∃ el sp, d1 = .slice el sp ∧ el.length = a.jn) ∧ MsgOf W H a.y.cells.toList d2 a.y a.has
theorem wf_i64 {k : Int} (h : (Lit.int .i64 k).wf = true) : -9223372036854775808 ≤ k ∧ k ≤ 9223372036854775807 := by
  have h1 : IntKind.i64.min ≤ k ∧ k ≤ IntKind.i64.max := by simpa [Lit.wf] using h
  have e1 : IntKind.i64.min = -9223372036854775808 := by decide
  have e2 : IntKind.i64.max = 9223372036854775807 := by decide
  rw [e1, e2] at h1
  exact h1
set_option maxRecDepth 100000 in
set_option maxHeartbeats 1000000 in
theorem act19_at {fuel : Nat} {ad : Addr} {i : Nat} {cs : List Value} {x : DataW H × List MemPlace} (h1 : W.cells? base (ad.add (i * 20)) 20 = some cs) (h2 : DataW.trod enc Tryz.prog W base (fun _ => true) held fuel 100 cs = some x) : ∃ a, Act19At W H ad i x.1 a := by
  obtain ⟨_, hlen, hcell⟩ := World.cells?_some h1
  obtain ⟨xs, k, hk, hxy, _, hxl, hf⟩ := DataW.trod_struct Tryz.underlying100 h2
  match xs, hxl, cs, hlen with
  | [y0, y1, y2, y3, y4], _, [v0, v1, v2, v3, v4, v5, v6, v7, v8, v9, v10, v11, v12, v13, v14, v15, v16, v17, v18, v19], _ =>
    have g0 := hf 0 _ rfl
    have g1 := hf 1 _ rfl
    have g2 := hf 2 _ rfl
    have g3 := hf 3 _ rfl
    have g4 := hf 4 _ rfl
    simp [cells_u8, cells_bytes, cells_msg, cells_int, cells_bool] at g0 g1 g2 g3 g4
    obtain ⟨n0, e0, _, wf0⟩ := DataW.trod_int Tryz.underlying5 g0
    obtain ⟨a1, c1, b1, e1, r1, x1⟩ := bytes_cell g1
    obtain ⟨n3, e3, _, wf3⟩ := DataW.trod_int Tryz.underlying3 g3
    obtain ⟨b4, e4, _⟩ := DataW.trod_bool Tryz.underlying4 g4
    obtain ⟨y, has, hm⟩ := msg_of g2
    simp at e0 e3 e4
    obtain ⟨k0, rfl, hk0⟩ := wf_u8 wf0
    subst e0 e1 e3 e4
    have hle : b1.length ≤ c1 := by
      obtain ⟨_, _, _, hh, _⟩ := arg_bytes (a := a1) (n := b1.length) (c := c1) (d := y1.1) (p := y1.2) ⟨k, by simpa [Value.cells] using g1⟩
      exact hh
    have hw3 := wf_i64 wf3
    refine ⟨⟨k0, a1, b1.length, c1, b1.map (·.toNat), y, has, n3, b4⟩, ?_, hk0, by rw [show n8s (b1.map (·.toNat)) = u8s b1 by simp [u8s]]; exact r1, hle, hw3.1, hw3.2, y0.1, y1.1, y2.1, y3.1, y4.1, by rw [hxy]; rfl, ?_, by rw [← hm.cell]; exact hm⟩
    · intro j v hv
      have e : Act19V.cells ⟨k0, a1, b1.length, c1, b1.map (·.toNat), y, has, n3, b4⟩ = [.int .u8 (k0 : Int), .slice a1 b1.length c1, v2, v3, v4, v5, v6, v7, v8, v9, v10, v11, v12, v13, v14, v15, v16, v17, .int .i64 n3, .bool b4] := by
        unfold Act19V.cells
        simp only
        rw [← hm.cell]
        rfl
      rw [e] at hv
      have hj : j < 20 := (List.getElem?_eq_some_iff.1 hv).1
      have := hcell j hj
      rw [add_add] at this
      rw [this]
      exact hv
    · rcases x1 with x1 | x1
      · left; rw [x1]; exact ⟨rfl, rfl⟩
      · exact .inr x1
set_option maxRecDepth 100000 in
set_option maxHeartbeats 1000000 in
theorem arg_acts19 {a : Option Addr} {n c : Nat} {d : DataW H} {p : List MemPlace} (h : DataW.Trod enc Tryz.prog W base (fun _ => true) held 82 (.slice a n c) d p)
    {ts : List TypeId} {ds : List (DataW H)} (hs : (DataW.weightsEach Tryz.prog ts ds).all (· ≤ reachBytes) = true) {j : Nat} (ht : ts[j]? = some 82) (hd : ds[j]? = some d) : (∃ l, ReadsActs19 (just (hp W)) a n l ∧ n ≤ 9223372036854775807) ∧ Lies enc W base held 82 [.slice a n c] := by
  obtain ⟨fuel, hf⟩ := h
  refine ⟨?_, fuel, _, by simpa [Value.cells] using hf⟩
  rcases open_slice Tryz.underlying82 hf with ⟨h1, h2⟩ | ⟨a', n', c', m, k, D, Pl, h1, _, hl, hm, hmm, h2, h3⟩
  · simp [Value.cells] at h1
    obtain ⟨rfl, rfl, rfl⟩ := h1
    exact ⟨[], ⟨rfl, reads_nil, by simp⟩, by omega⟩
  · simp [Value.cells] at h1
    obtain ⟨rfl, rfl, rfl⟩ := h1
    have hlm := le_m hl hmm
    rw [cells_act19] at h3
    have each : ∀ i, i < n → ∃ y : Act19V, Act19At W H a' i (D i) y := fun i hi => by
      obtain ⟨cs, g1, g2⟩ := h3 i (by omega)
      exact act19_at g1 g2
    have : Inhabited Act19V := ⟨⟨0, none, 0, 0, [], ⟨0, 0, 0, 0, 0, 0, 0, 0, none, 0, 0, none, 0, 0, .bool false, .bool false, .bool false, .bool false, .bool false, .bool false⟩, [], 0, false⟩⟩
    obtain ⟨q, hq⟩ := choose_lt each
    have hmem : ∀ x ∈ (List.range n).map q, ∃ i, i < n ∧ x = q i := fun x hx => by
      obtain ⟨i, hi, rfl⟩ := List.mem_map.1 hx
      exact ⟨i, List.mem_range.1 hi, rfl⟩
    unfold maxLen at hm
    injection h2 with hd2 _
    have hbound : ∀ i, i < n → ∀ k, k ∈ (D i).weights Tryz.prog 100 → k ≤ reachBytes := fun i hi k hk => by
      have := List.all_eq_true.1 hs k (DataW.weights_mem_each ht hd k (by
        rw [hd2]
        simp only [DataW.weights, Tryz.underlying82]
        exact List.mem_cons_of_mem _ (List.mem_append_left _ (weights_elem (List.mem_map_of_mem (List.mem_range.2 hi)) hk))))
      exact of_decide_eq_true this
    refine ⟨(List.range n).map q, ⟨by simp, ?_, ?_⟩, by omega⟩
    · refine reads_of_cells ?_ fun i v hv => ?_
      · rw [List.length_flatMap]
        have : ((List.range n).map q).map (fun x => x.cells.length) = List.replicate n 20 := by
          apply List.ext_getElem <;> simp [Act19V.cells, MsgV.cells]
        rw [this, List.sum_replicate_nat]
      · obtain ⟨g1, g2⟩ := act19_flat _ i v hv
        have hi : i / 20 < n := by simpa using g1
        have := (hq (i / 20) hi).cell (i % 20) v (by simpa using g2)
        rw [show i / 20 * 20 + i % 20 = i by omega] at this
        exact this
    · intro x hx
      obtain ⟨i, hi, rfl⟩ := hmem x hx
      have hA := hq i hi
      obtain ⟨d0, d1, d2, d3, d4, hdi, hj, hM⟩ := hA.data
      have hall : ∀ k, k ∈ DataW.weightsEach Tryz.prog [5, 46, 98, 3, 4] [d0, d1, d2, d3, d4] → k ≤ reachBytes := fun k hk => by
        refine hbound i hi k ?_
        rw [hdi]
        simp only [DataW.weights, Tryz.underlying100]
        exact hk
      have hsmall : (q i).jn ≤ 140737488355328 := by
        rcases hj with ⟨_, e⟩ | ⟨el, sp, hel, hlen⟩
        · omega
        · have b3 := hall _ (DataW.weights_mem_each (j := 1) (t := 46) (d := d1) rfl rfl ((el.length + sp.length) * Tryz.prog.bytesOf 5) (by rw [hel]; simp [DataW.weights, Tryz.underlying46]))
          rw [bytes_u8] at b3
          unfold reachBytes at b3
          omega
      refine ⟨hA.kind, hA.rd, hA.le, hsmall, ⟨hM.say, hM.from_, hM.to, hM.epoch, hM.haN, ?_, hM.rd, hM.ok, hM.one⟩, hA.keepLo, hA.keepHi⟩
      obtain ⟨c0, c1, c2, c3, c4, c5, c6, c7, c8, c9, c10, c11, c12, c13, hci, hb⟩ := hM.data
      rcases hb with hb | ⟨el, sp, hel, hlen⟩
      · rw [hM.haN, hb]; decide
      · have b3 := hall _ (DataW.weights_mem_each (j := 2) (t := 98) (d := d2) rfl rfl ((el.length + sp.length) * Tryz.prog.bytesOf 90) (by
          rw [hci]
          simp only [DataW.weights, Tryz.underlying98]
          exact DataW.weights_mem_each (j := 9) (t := 91) (d := c9) rfl rfl ((el.length + sp.length) * Tryz.prog.bytesOf 90) (by rw [hel]; simp [DataW.weights, Tryz.underlying91])))
        rw [bytes_u64] at b3
        unfold reachBytes at b3
        rw [hM.haN]
        omega
end
end Go.Proofs.YtkdiejbpleojnaaGreatDoor
