/- The walk of the disk's function List: a contract over the small separation logic; the conditions are in the theorem. -/
import Derived.Test.YtmpgnnjhgjfgaaaDoorKeys
import Derived.Test.YtmpgnnjhgjfgaaaDoorIter
namespace Go.Proofs.YtmpgnnjhgjfgaaaDoor
open Go.RowKit Go.Sl Go.Maps
attribute [local go_sem] cell_of frozen_of zero_names
/-- A disk's names, rising. -/
def listOf (D : DiskSt) : List (List UInt8) := (D.now.map (·.1.data.toList)).mergeSort leB
theorem length_listOf (D : DiskSt) : (listOf D).length = D.now.length := by unfold listOf; rw [List.length_mergeSort, List.length_map]
theorem named_size {s : ByteArray} (h : nameOk s = true) : s.size ≤ 16 := by
  unfold nameOk at h
  simp only [Bool.and_eq_true, decide_eq_true_eq] at h
  exact h.1.2
set_option maxHeartbeats 1000000 in
theorem list_spec (p : Nat) (D : DiskSt) (w w0 : World) (S F : Asn) (m : Mod w w0 S) (t : Take S (diskA p) D F) :
    Calls Tryd.prog 28 #[.pointer (some ⟨p, 0, none⟩)] w fun e w' => ∃ B c, e = .returned (.slice B (listOf D).length c) ∧ Mod w' w0 (rowA 9 1 (.slice B (listOf D).length c) (listOf D).length ((listOf D).map encStr) * S) := by
  obtain ⟨rn, rs, hok, m1⟩ := disk_open m t
  have hpos : (0 : Int) < D.size := by have := hok.pos; omega
  have hlen : (ptrs D.now).length ≤ 64 := by rw [ptrs, length_onVals]; exact hok.many
  obtain ⟨D0, hown, hperm, hsize⟩ := owns_smap (P := Tryd.prog) (k := 9) (r := rn) (L := ptrs D.now) m1 inferInstance (by kernel_rfl) (fun q hq => by
    obtain ⟨q0, hq0, rfl⟩ := List.mem_map.1 hq
    have := named_size (hok.named q0 hq0)
    show q0.1.size ≤ maxLen
    unfold maxLen; omega) (by unfold maxLen; omega)
  have Hperm := Lib.hid hperm
  clear hperm
  go_enter Tryd.func28, Tryd.ntmps28
  go_wp2_with first
    | (go_at_call 44; refine (there_live p D.size _ _ _ w0 _ hpos).mono ?_; rintro e w' ⟨rfl, rfl⟩)
    | (go_at_call 46; refine (callsIn_wide.1 (Tryd.maps_Keys_46 _ _)).mono ?_; rintro e w' ⟨rfl, rfl⟩)
    | (go_at_call 45; refine (callsIn_wide.1 (Tryd.slices_Sorted_keys_45_46 rn _ D0 _ w hown (by rw [hsize]; unfold maxLen; omega) (by rw [hsize]; omega))).mono ?_; rintro e w' ⟨v, ss, rfl, hS, hrow, hnil, hb⟩)
  go_ret
  have hp : ss.Perm (D.now.map (·.1.data.toList)) := by
    refine (hS.trans Hperm.out).trans ?_
    rw [ptrs, onVals, List.map_map]
    exact List.Perm.refl _
  have hsort : ss.mergeSort leB = listOf D := mergeSort_of_perm hp
  have hl : ss.length = (listOf D).length := by rw [← hsort, List.length_mergeSort]
  have ma : Mod (w.alloc (.cells #[.map (some rn)] 82)) w0 (blk w.heap.size (.cells #[.map (some rn)] 82) * S) := Mod.alloc (m := m) (hn := ⟨rfl⟩) _
  have mb := (Mod.rowBelow (Mod.drop (m := ma)) rfl hb hrow)
  have hv : ∃ B c, v = .slice B ss.length c := by
    rcases (owns_of_row mb).2 with ⟨h1, h2⟩ | ⟨g, cap, cur, h1, _⟩
    · exact ⟨none, 0, by rw [h1, h2]⟩
    · exact ⟨_, _, h1⟩
  obtain ⟨B, c, rfl⟩ := hv
  rw [hl] at mb ⊢
  rw [hsort] at mb
  exact ⟨B, c, rfl, mb⟩
end Go.Proofs.YtmpgnnjhgjfgaaaDoor
