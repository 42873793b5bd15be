/- The walk of JournalsNone: it returns true and changes nothing that was there; no condition. -/
import Derived.Test.YtabekogiaobnfaaDoorProg
import Derived.Test.YtabekogiaobnfaaDoorSl
import Derived.WalkLawsBesides
import Derived.WalkSpells
namespace Go.Proofs.YtabekogiaobnfaaDoor
open Go.RowKit Go.Sl
attribute [local go_sem] cell_of frozen_of
set_option maxHeartbeats 1000000 in
theorem journalsNone_walk (A : Option Addr) (n c : Nat) (name : ByteArray) (w w0 : World) (S : Asn) [Mod w w0 S] :
    Calls Tryd.prog 3 #[.slice A n c, .string name] w fun e w' => e = .returned (.bool true) ∧ Mod w' w0 S := by
  go_enter Tryd.func3, Tryd.ntmps3
  go_wp2
  refine wp_loop_rounds 3 ?_
  rw [rounds_succ]
  go_wp2
  rw [rounds_succ]
  go_wp2
  rw [rounds_succ]
  go_wp2
  go_ret3
  go_wp2
  go_ret3
  go_wp2
  go_ret
  exact ⟨rfl, Mod.sub S⟩
end Go.Proofs.YtabekogiaobnfaaDoor
