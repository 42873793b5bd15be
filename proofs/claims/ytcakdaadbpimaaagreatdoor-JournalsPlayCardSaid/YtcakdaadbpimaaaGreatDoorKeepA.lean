/- Part of what is said, found by instances: plain lemmas over the small separation logic. -/
import Derived.Test.YtcakdaadbpimaaaGreatDoorBaseG
namespace Go.Sl
open Go
/-- S says T, and perhaps more. -/
class Keeps (S T : Asn) : Prop where
  keep : ∀ x, (S * tru).says x → (T * tru).says x
theorem sep_tru_tru (A : Asn) (x : Hp) (h : (A * tru * tru).says x) : (A * tru).says x := by
  rw [sep_assoc] at h
  obtain ⟨a, b, h1, h2, h3, _⟩ := h
  exact ⟨a, b, h1, h2, h3, trivial⟩
instance (priority := 3000) Keeps.refl (S : Asn) : Keeps S S := ⟨fun _ h => h⟩
instance (priority := 2000) Keeps.mul (S A B R : Asn) [p : Pull S A R] [k : Keeps R B] : Keeps S (A * B) := ⟨fun x h => by
  rw [p.eq, sep_assoc] at h
  obtain ⟨a, b, h1, h2, h3, h4⟩ := h
  rw [sep_assoc]
  exact ⟨a, b, h1, h2, h3, k.keep b h4⟩⟩
instance (priority := 2500) Keeps.empL (S B : Asn) [k : Keeps S B] : Keeps S (emp * B) := ⟨fun x h => by rw [emp_sep]; exact k.keep x h⟩
instance (priority := 1000) Keeps.last (S A R : Asn) [p : Pull S A R] : Keeps S A := ⟨fun x h => by
  rw [p.eq, sep_assoc] at h
  obtain ⟨a, b, h1, h2, h3, _⟩ := h
  exact ⟨a, b, h1, h2, h3, trivial⟩⟩
/-- Only that part is kept. -/
theorem Mod.keep {w w0 : World} {S T : Asn} (m : Mod w w0 S) [k : Keeps S T] : Mod w w0 T := ⟨m.os, m.tape, m.output, k.keep _ m.says⟩
end Go.Sl
