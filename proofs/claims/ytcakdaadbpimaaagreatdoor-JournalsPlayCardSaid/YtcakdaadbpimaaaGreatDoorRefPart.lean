/- The reference's parts of a record (bucketlineref01 PutFour, bucketlineref06 part): contracts over the small separation logic; the conditions are in each theorem. -/
import Derived.Test.YtcakdaadbpimaaaGreatDoorRefSum
import Derived.Test.YtcakdaadbpimaaaGreatDoorRowKeep
import Derived.Test.YtcakdaadbpimaaaGreatDoorKeepA
import Derived.Test.YtcakdaadbpimaaaGreatDoorWrittenG
namespace Go.Proofs.YtcakdaadbpimaaaGreatDoor
open Go.RowKit Go.Sl
attribute [local go_sem] cell_of cellAt_of frozen_of
set_option maxHeartbeats 2000000 in
theorem r1PutFour_spec (x : Nat) (hx : x < 4294967296) (w w0 : World) (S : Asn) (m : Mod w w0 S) : Calls Tryz.prog 214 #[.slice none 0 0, .int .u32 (x : Int)] w fun e w' => ∃ A c, e = .returned (.slice A 4 c) ∧ Mod w' w0 (rowA 5 1 (.slice A 4 c) 4 (u8s (four x)) * S) := by
  have H4 := Lib.hid (four_cells x hx)
  go_enter Tryz.func214, Tryz.ntmps214
  go_wp2_with (at_builtin; refine wpList_mod (w0 := w0) ?_; intro mw; have mx := row_none_n (e := 5) (size := 1) mw; refine wpList_append_n (t := 46) (size := 1) (v := .slice none 0 0) (n := 0) (xs := []) (k := 4) (c := 4) (A := ⟨w.heap.size, 0, none⟩) (news := u8s (four x)) rfl rfl mx rfl rfl (reads_blk H4.out rfl) (by decide) (one_u8s _) (by unfold maxLen; omega) (by omega) ?_; clear mw mx; intro A2 c2 w2 m4)
  simp only [Nat.zero_add, List.nil_append] at m4
  go_ret
  exact ⟨A2, c2, rfl, Mod.drop (m := Mod.to (m := m4) (sep_left_comm _ _ _))⟩
/-- A literal's block as a row. -/
theorem row_lit {w w0 : World} {e g n : Nat} {cs : Array Value} {F : Asn} (m : Mod w w0 (Go.Sl.blk g (.cells cs e (0, 0)) * F)) (h : cs.size = n) (hn : n ≤ maxLen) : Mod w w0 (rowA e 1 (.slice (some ⟨g, 0, none⟩) n n) n cs.toList * F) :=
  row_shut_n m (Nat.le_refl _) hn (by omega) (by rw [Array.length_toList]; omega) (List.take_of_length_le (by rw [Array.length_toList]; omega))
theorem crc_cons (kind : UInt8) (b : List UInt8) : crcOn 0#32 (kind :: b) = crcOf kind b := by simp [crcOf, crcOn]
theorem len_cells (n : Nat) (kind : UInt8) : #[Value.int .u8 ((n : Int) / 256 % 256), .int .u8 ((n : Int) % 256), .int .u8 (kind.toNat : Int)].toList = u8s [UInt8.ofNat (n / 256), UInt8.ofNat n, kind] := by
  simp only [u8s, List.map_cons, List.map_nil, UInt8.toNat_ofNat', Nat.reducePow, Int.natCast_emod, Int.natCast_ediv]
  rfl
set_option maxHeartbeats 4000000 in
theorem r6part_spec (kind : UInt8) (B : Option Addr) (n c : Nat) (b : List UInt8) (w w0 : World) (S : Asn) (m : Mod w w0 S) (r : Reads S B n (u8s b)) (hn : n ≤ 1000000) :
    Calls Tryz.prog 162 #[.int .u8 (kind.toNat : Int), .slice B n c] w fun e w' => ∃ A c, e = .returned (.slice A (7 + n) c) ∧ Mod w' w0 (rowA 5 1 (.slice A (7 + n) c) (7 + n) (u8s (partB kind b)) * S) := by
  have hl := reads_len m r
  rw [length_u8s] at hl
  have Hl := Lib.hid hl
  have hk := kind.toNat_lt
  obtain ⟨x, hx⟩ : ∃ x, (crcOf kind b).toNat = x := ⟨_, rfl⟩
  have hxl : x < 4294967296 := by rw [← hx]; exact (crcOf kind b).isLt
  have Hx := Lib.hid hx
  clear hl hx
  go_enter Tryz.func162, Tryz.ntmps162
  go_wp2_with (at_builtin; refine wpList_mod (w0 := w0) ?_; intro mw; have mx := row_lit (n := 1) mw rfl (by decide); refine wpList_append (m := mx) (v := .slice (some ⟨w.heap.size, 0, none⟩) 1 1) (A := B) (k := n) (c := c) (news := u8s b) (r := reads_lift inferInstance r) rfl rfl rfl rfl (one_u8s _) (by unfold maxLen; omega) (by omega) ?_; clear mw mx; intro A1 c1 w1 m1)
  have e1 : #[Value.int .u8 (kind.toNat : Int)].toList ++ u8s b = u8s (kind :: b) := rfl
  rw [e1] at m1
  clear e1
  refine (r2own_spec A1 (1 + n) c1 (kind :: b) w1 w0 _ m1 inferInstance (by omega)).mono ?_
  rw [crc_cons, Hx.out]
  rintro e w2 ⟨rfl, m2⟩
  go_wp2_with fail
  refine (r1PutFour_spec x hxl w2 w0 _ m2).mono ?_
  rintro e w3 ⟨A4, c4, rfl, m4⟩
  have HE := Lib.hid (len_cells n kind)
  go_wp2_with first
    | (at_builtin; refine wpList_append (v := .slice A4 4 c4) (A := some ⟨w3.heap.size, 0, none⟩) (k := 3) (c := 3) (news := u8s [UInt8.ofNat (n / 256), UInt8.ofNat n, kind]) (r := reads_blk HE.out rfl) rfl rfl inferInstance rfl rfl (one_u8s _) (by unfold maxLen; omega) (by omega) ?_; intro A5 c5 w5 m5)
    | (at_builtin; refine wpList_append (v := .slice A5 (4 + 3) c5) (A := B) (k := n) (c := c) (news := u8s b) (r := reads_lift inferInstance r) rfl rfl m5 rfl rfl (one_u8s _) (by unfold maxLen; omega) (by omega) ?_; intro A6 c6 w6 m6)
  go_ret
  refine ⟨A6, c6, rfl, ?_⟩
  have e2 : u8s (four x) ++ u8s [UInt8.ofNat (n / 256), UInt8.ofNat n, kind] ++ u8s b = u8s (partB kind b) := by
    rw [← u8s_append, ← u8s_append]
    unfold partB headB
    rw [Hx.out, Hl.out]
  rw [e2] at m6
  exact Mod.keep m6
end Go.Proofs.YtcakdaadbpimaaaGreatDoor
