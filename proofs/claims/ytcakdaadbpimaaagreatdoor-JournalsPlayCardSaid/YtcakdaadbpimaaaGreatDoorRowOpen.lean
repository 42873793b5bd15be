/- A row as a block, and back: plain lemmas. -/
import Derived.Test.YtcakdaadbpimaaaGreatDoorNamesG
namespace Go.Proofs.YtcakdaadbpimaaaGreatDoor
open Go.RowKit Go.Sl
/-- A row's block. -/
theorem row_open {w w0 : World} {e : TypeId} {A : Option Addr} {n c : Nat} {xs : List Value} {F : Asn} (m : Mod w w0 (rowA e 1 (.slice A n c) n xs * F)) (hn : 0 < n) : ∃ g cur, A = some ⟨g, 0, none⟩ ∧ n ≤ cur.size ∧ c ≤ maxLen ∧ xs.length = n ∧ cur.size = c ∧ cur.toList.take n = xs ∧ Mod w w0 (blk g (.cells cur e (0, 0)) * F) := by
  have h := m.says
  rw [sep_assoc] at h
  obtain ⟨a, b, h1, h2, ⟨hl, h3⟩, h4⟩ := h
  rcases h3 with ⟨_, h0, _⟩ | ⟨g, cap, cur, hv, k1, k2, k3, k4, rfl⟩
  · omega
  · injection hv with e1 e2 e3
    subst e1 e3
    rw [Nat.mul_one] at k3 k4 hl
    exact ⟨g, cur, rfl, by omega, k2, hl, k3, k4, m.os, m.tape, m.output, by rw [sep_assoc]; exact ⟨_, b, h1, h2, rfl, h4⟩⟩
theorem row_shut {w w0 : World} {e : TypeId} {g n c : Nat} {cur : Array Value} {xs : List Value} {F : Asn} (m : Mod w w0 (blk g (.cells cur e (0, 0)) * F)) (h1 : n ≤ c) (h2 : c ≤ maxLen) (h3 : cur.size = c) (h4 : xs.length = n) (h5 : cur.toList.take n = xs) : Mod w w0 (rowA e 1 (.slice (some ⟨g, 0, none⟩) n c) n xs * F) := by
  refine Mod.conv (S := blk g (.cells cur e (0, 0)) * F) (m := m) fun x hx => sep_imp (A := blk g (.cells cur e (0, 0))) (fun y hy => ?_) hx
  exact ⟨by omega, .inr ⟨g, c, cur, rfl, h1, h2, by omega, by rw [Nat.mul_one]; exact h5, hy⟩⟩
end Go.Proofs.YtcakdaadbpimaaaGreatDoor
