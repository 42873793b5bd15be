/- Acts that came in: their numbers' bounds. -/
import Derived.Test.YtcakdaadbpimaaaGreatDoorArgsG
namespace Go.Proofs.YtcakdaadbpimaaaGreatDoor
open Go.ChangeShapes Go.WideShapes Go.ChangeAt Go.RowKit Go.Sl Go.Deep
section
variable {H : Type} {enc : TypeId × Value → H} {W : World} {base : Nat} {held : Bool}
set_option maxRecDepth 100000 in
theorem act_ints {fuel : Nat} {ad : Addr} {i : Nat} {cs : List Value} {x : DataW H × List MemPlace} (h1 : W.cells? base (ad.add (i * 7)) 7 = some cs) (h2 : DataW.trod enc Tryz.prog W base (fun _ => true) held fuel 48 cs = some x) : ∃ n4 n5 : Int, W.cell? (ad.add (i * 7 + 4)) = some (.int .i64 n4) ∧ W.cell? (ad.add (i * 7 + 5)) = some (.int .i64 n5) ∧ n4 ≤ 9223372036854775807 ∧ n5 ≤ 9223372036854775807 := by
  obtain ⟨_, hlen, hcell⟩ := World.cells?_some h1
  obtain ⟨xs, k, hk, hxy, _, hxl, hf⟩ := DataW.trod_struct Tryz.underlying48 h2
  match xs, hxl, cs, hlen with
  | [y0, y1, y2, y3, y4, y5, y6], _, [v0, v1, v2, v3, v4, v5, v6], _ =>
    have g4 := hf 4 _ rfl
    have g5 := hf 5 _ rfl
    simp [cells_int] at g4 g5
    obtain ⟨n4, e4, x4, w4⟩ := DataW.trod_int Tryz.underlying3 g4
    obtain ⟨n5, e5, x5, w5⟩ := DataW.trod_int Tryz.underlying3 g5
    simp at e4 e5
    subst e4 e5
    have c4 := hcell 4 (by omega)
    have c5 := hcell 5 (by omega)
    rw [add_add] at c4 c5
    refine ⟨n4, n5, c4, c5, ?_, ?_⟩
    · have := w4; simp [Lit.wf] at this; exact this.2
    · have := w5; simp [Lit.wf] at this; exact this.2
set_option maxRecDepth 100000 in
theorem arg_acts_i {a : Option Addr} {n c : Nat} {d : DataW H} {p : List MemPlace} (h : DataW.Trod enc Tryz.prog W base (fun _ => true) held 22 (.slice a n c) d p)
    {ts : List TypeId} {ds : List (DataW H)} (hs : (DataW.weightsEach Tryz.prog ts ds).all (· ≤ reachBytes) = true) {j : Nat} (ht : ts[j]? = some 22) (hd : ds[j]? = some d) : ∃ l, ReadsActs (just (hp W)) a n l ∧ n ≤ 9223372036854775807 ∧ ∀ x ∈ l, x.off ≤ 9223372036854775807 ∧ x.n ≤ 9223372036854775807 := by
  obtain ⟨l, hl, hn⟩ := arg_acts h hs ht hd
  refine ⟨l, hl, hn, fun x hx => ?_⟩
  obtain ⟨k, hk, rfl⟩ := List.mem_iff_getElem.1 hx
  have hkn : k < n := by rw [← hl.len]; exact hk
  obtain ⟨fuel, hf⟩ := h
  rcases open_slice Tryz.underlying22 hf with ⟨h1, h2⟩ | ⟨a', n', c', m, k', D, Pl, h1, _, hl', hm, hmm, h2, h3⟩
  · simp [Value.cells] at h1
    omega
  · simp [Value.cells] at h1
    obtain ⟨rfl, rfl, rfl⟩ := h1
    have hlm := le_m hl' hmm
    rw [cells_act] at h3
    obtain ⟨cs, g1, g2⟩ := h3 k (by omega)
    obtain ⟨n4, n5, c4, c5, b4, b5⟩ := act_ints g1 g2
    obtain ⟨ad, ha, hsp, hc⟩ := hl.cells.cell (hp W) rfl (by omega)
    injection ha with ha
    subst ha
    have q4 := hc _ _ (act_cell l k 4 _ hk rfl)
    have q5 := hc _ _ (act_cell l k 5 _ hk rfl)
    have val : ∀ (j : Nat) (v u : Value), (∃ c e f, hp W a'.block = some (.cells c e f) ∧ c[a'.off + j]? = some v) → W.cell? (a'.add j) = some u → v = u := by
      rintro j v u ⟨c, e, f, hw, hv⟩ hu
      have hw' : W.heap[a'.block]? = some (.cells c e f) := hw
      have : W.cell? (a'.add j) = some v := by
        rw [add_off a' j hsp]
        unfold World.cell?
        simp only [hw']
        exact hv
      rw [this] at hu
      exact Option.some.inj hu
    have e4 := val _ _ _ q4 c4
    have e5 := val _ _ _ q5 c5
    injection e4 with _ e4
    injection e5 with _ e5
    rw [e4, e5]
    exact ⟨b4, b5⟩
end
end Go.Proofs.YtcakdaadbpimaaaGreatDoor
