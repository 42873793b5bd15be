/- law01's Book: records that were handed out are put in, one by one: a contract over the small separation logic; the conditions are in the theorem. -/
import Derived.Test.YtcakdaadbpimaaaGreatDoorBook4
import Derived.Test.YtcakdaadbpimaaaGreatDoorJourG
import Derived.Test.YtcakdaadbpimaaaGreatDoorKeepA
namespace Go.Proofs.YtcakdaadbpimaaaGreatDoor
open Go.RowKit Go.Sl
attribute [local go_sem] cell_of cellAt_of frozen_of
/-- Records as lists that are held. -/
def hdsOf : List (Option Addr × Nat) → List (List UInt8) → List Hd
  | h :: hs, r :: rs => ⟨h.1, h.2, u8s r⟩ :: hdsOf hs rs
  | _, _ => []
theorem hdsOf_rows : ∀ (hs : List (Option Addr × Nat)) (rs : List (List UInt8)), recRows hs rs = rowsA (hdsOf hs rs)
  | [], [] => rfl
  | [], _ :: _ => rfl
  | _ :: _, [] => rfl
  | h :: hs, r :: rs => by simp only [recRows, hdsOf, rowsA, length_u8s, hdsOf_rows hs rs]
theorem hdsOf_length : ∀ (hs : List (Option Addr × Nat)) (rs : List (List UInt8)), hs.length = rs.length → (hdsOf hs rs).length = rs.length
  | [], [], _ => rfl
  | [], _ :: _, e => by cases e
  | _ :: _, [], e => by cases e
  | h :: hs, r :: rs, e => by simp only [hdsOf, List.length_cons, hdsOf_length hs rs (by simpa using e)]
theorem hdsOf_vals : ∀ (hs : List (Option Addr × Nat)) (rs : List (List UInt8)), hs.length = rs.length → ((hs.zip rs).map fun q => Value.slice q.1.1 q.2.length q.1.2) = (hdsOf hs rs).map fun h => Value.slice h.a h.vs.length h.c
  | [], [], _ => rfl
  | [], _ :: _, e => by cases e
  | _ :: _, [], e => by cases e
  | h :: hs, r :: rs, e => by simp only [hdsOf, List.zip_cons_cons, List.map_cons, length_u8s, hdsOf_vals hs rs (by simpa using e)]
theorem hdsOf_small {N : Nat} : ∀ (hs : List (Option Addr × Nat)) (rs : List (List UInt8)), (∀ r ∈ rs, r.length ≤ N) → ∀ h ∈ hdsOf hs rs, h.vs.length ≤ N
  | h :: hs, r :: rs, e, g, hg => by
    simp only [hdsOf, List.mem_cons] at hg
    rcases hg with rfl | hg
    · show (u8s r).length ≤ N
      rw [length_u8s]; exact e r (List.mem_cons_self ..)
    · exact hdsOf_small hs rs (fun r hr => e r (List.mem_cons_of_mem _ hr)) g hg
  | [], _, _, g, hg => by simp [hdsOf] at hg
  | _ :: _, [], _, g, hg => by simp [hdsOf] at hg
set_option maxRecDepth 4000 in
set_option maxHeartbeats 4000000 in
theorem bRecords_spec (k : Nat) (B : Option Addr) (cB : Nat) (L : List Hd) (A : Option Addr) (n c : Nat) (rs : List (List UInt8)) (R1 : Asn) (hR : RecsOwn R1 A rs) (hn : rs.length = n) (hsm : ∀ r ∈ rs, r.length ≤ 1048576) (w w0 : World) (F : Asn) (hL : L.length + n ≤ 20000000)
    (m : Mod w w0 (bookA k B cB L * (R1 * F))) :
    Calls Tryz.prog 44 #[ptr k, .slice A n c] w fun e w' => e = .returned (.tuple #[]) ∧ ∃ B' cB' L', L'.length = n ∧ (∀ h ∈ L', h.vs.length ≤ 1048576) ∧ Mod w' w0 (bookA k B' cB' (L ++ L') * F) := by
  obtain ⟨cR, xs, G, hcR, ⟨hs, hlen, hxs, hG, _⟩, hR1⟩ := hR
  obtain ⟨H, hH⟩ : ∃ H, hdsOf hs rs = H := ⟨_, rfl⟩
  have hHl : H.length = n := by rw [← hH, hdsOf_length hs rs hlen]; exact hn
  have hHs : ∀ h ∈ H, h.vs.length ≤ 1048576 := by rw [← hH]; exact hdsOf_small hs rs hsm
  have hxs2 : xs = H.map fun h => Value.slice h.a h.vs.length h.c := by rw [hxs, hdsOf_vals hs rs hlen, hH]
  have hG2 : G = rowsA H := by rw [hG, hdsOf_rows, hH]
  rw [hR1, hG2, hxs2, hn] at m
  obtain ⟨X, hX⟩ : ∃ X, rowA 46 1 (.slice A n cR) n (H.map fun h => Value.slice h.a h.vs.length h.c) = X := ⟨_, rfl⟩
  have rX : Reads X A n (H.map fun h => Value.slice h.a h.vs.length h.c) := by rw [← hX]; infer_instance
  rw [hX] at m
  have RX := Lib.hid rX
  have HHl := Lib.hid hHl
  clear hX rX hR1 hG hG2 hxs hxs2 hlen hH hHl hn hcR
  go_enter Tryz.func44, Tryz.ntmps44
  go_wp2_with fail
  go_loopg [4] n (fun gk iv wr => ∃ (i : Nat) (B' : Option Addr) (cB' : Nat), i ≤ n ∧ gk = n - i ∧ iv = .int .i64 (i : Int) ∧ Mod wr w0 (bookA k B' cB' (L ++ H.take i) * (rowsA (H.drop i) * (X * F))))
  case atStart => exact ⟨0, B, cB, Nat.zero_le _, rfl, rfl, by rw [List.take_zero, List.append_nil, List.drop_zero]; exact Mod.to (m := m) (by ac_rfl)⟩
  case round =>
    obtain ⟨i, B', cB', hi, hgk, rfl, m1⟩ := hrel
    by_cases hlt : i < n
    · have hii : (i : Int) < (n : Int) := by omega
      have hiH : i < H.length := by rw [HHl.out]; exact hlt
      have rX := RX.out
      obtain ⟨ad, ha, hsp, hc0⟩ := reads_cell m1 (reads_lift (inferInstance : Sub _ X) rX) (by omega)
      clear hc0
      obtain ⟨b, o, sp⟩ := ad
      simp only at hsp
      subst hsp ha
      have cX : CellAt X b (o + i) (.slice H[i].a H[i].vs.length H[i].c) := reads_at_cell rX (by omega) i (by simp [hiH])
      have e1 : H.take (i + 1) = H.take i ++ [H[i]] := List.take_succ_eq_append_getElem hiH
      rw [rows_next hiH] at m1
      have HT : Hid (L ++ H.take (i + 1) = (L ++ H.take i) ++ [H[i]]) := by show _ = _; rw [e1, List.append_assoc]
      have hLi : (L ++ H.take i).length ≤ 20000000 := by rw [List.length_append, List.length_take]; omega
      have HLi := Lib.hid hLi
      clear e1 rX hLi
      generalize H[i] = h at *
      have HB := Lib.hid (fun w2 m2 => bytes_spec k B' cB' (L ++ H.take i) h w2 w0 (rowsA (H.drop (i + 1)) * (X * F)) HLi.out m2)
      have M1 := Lib.hid (Mod.to (m := m1) (by ac_rfl) : Mod wr w0 (bookA k B' cB' (L ++ H.take i) * (rowA 5 1 (.slice h.a h.vs.length h.c) h.vs.length h.vs * (rowsA (H.drop (i + 1)) * (X * F)))))
      go_wp2_with (go_at_call 22; refine (HB.out _ M1.out).mono ?_; rintro e w2 ⟨rfl, B2, c2, m2⟩)
      go_roundg (n - (i + 1))
      case measure => omega
      case rel => exact ⟨i + 1, B2, c2, hlt, rfl, by go_num, by rw [HT.out]; exact m2⟩
    · obtain rfl : i = n := by omega
      have hii : ¬ (i : Int) < (i : Int) := by omega
      have e2 : H.take i = H := List.take_of_length_le (by rw [HHl.out]; exact Nat.le_refl _)
      rw [e2] at m1
      clear e2
      go_wp2_with fail
      go_end0
      exact ⟨rfl, B', cB', H, HHl.out, hHs, Mod.keep m1⟩
end Go.Proofs.YtcakdaadbpimaaaGreatDoor
