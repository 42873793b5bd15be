/- The walk of FilesNone: it returns true and changes nothing that was there; no condition. -/
import Derived.Test.YtabekogiaobnfaaDoorProg
import Derived.Test.YtabekogiaobnfaaDoorSl
import Derived.WalkLawsBesides
import Derived.WalkSpells
namespace Go.Proofs.YtabekogiaobnfaaDoor
open Go.RowKit Go.Sl
attribute [local go_sem] cell_of frozen_of
set_option maxHeartbeats 4000000 in
theorem filesNone_walk_pos (name : ByteArray) (A : Option Addr) (len c : Nat) (n : Int) (w w0 : World) (S : Asn) [Mod w w0 S] (hn : 0 ≤ n) :
    Calls Tryd.prog 13 #[.string name, .slice A len c, .int .i64 n] w fun e w' => e = .returned (.bool true) ∧ Mod w' w0 S := by
  go_enter Tryd.func13, Tryd.ntmps13
  go_wp2
  refine wp_loop_rounds 3 ?_
  rw [rounds_succ]
  go_wp2
  rw [rounds_succ]
  go_wp2
  rw [rounds_succ]
  go_wp2
  go_ret
  exact ⟨rfl, Mod.sub S⟩
set_option maxHeartbeats 4000000 in
theorem filesNone_walk_neg (name : ByteArray) (A : Option Addr) (len c : Nat) (n : Int) (w w0 : World) (S : Asn) [Mod w w0 S] (hn : decide (0 ≤ n) = false) :
    Calls Tryd.prog 13 #[.string name, .slice A len c, .int .i64 n] w fun e w' => e = .returned (.bool true) ∧ Mod w' w0 S := by
  go_enter Tryd.func13, Tryd.ntmps13
  go_wp2
  refine wp_loop_rounds 3 ?_
  rw [rounds_succ]
  go_wp2
  rw [rounds_succ]
  go_wp2
  rw [rounds_succ]
  go_wp2
  go_ret
  exact ⟨rfl, Mod.sub S⟩
theorem filesNone_walk (name : ByteArray) (A : Option Addr) (len c : Nat) (n : Int) (w w0 : World) (S : Asn) [Mod w w0 S] :
    Calls Tryd.prog 13 #[.string name, .slice A len c, .int .i64 n] w fun e w' => e = .returned (.bool true) ∧ Mod w' w0 S := by
  by_cases hn : 0 ≤ n
  · exact filesNone_walk_pos name A len c n w w0 S hn
  · exact filesNone_walk_neg name A len c n w w0 S (by simpa using hn)
end Go.Proofs.YtabekogiaobnfaaDoor
