/- The walk of bucketlinelaw06's alive: a contract over the small separation logic, under no condition. -/
import Derived.Test.YtmpgnnjhgjfgaaaDoorJay
namespace Go.Sl
theorem takes_0_0 : takes 0 0 = 7 := by rw [takes_step, if_pos (by decide)]; decide
theorem takes_7_1 : takes 7 1 = 8 := by rw [takes_step, if_pos (by decide)]; decide
theorem takes_128_94 : takes 128 94 = 101 := by rw [takes_step, if_pos (by decide)]; decide
theorem takes_15_200 : takes 15 200 = 214 := by
  rw [takes_step, if_neg (by decide), show 15 + gapOf 15 + 7 + min 200 (128 - (15 + gapOf 15) % 128 - 7) = 128 from by decide, show 200 - min 200 (128 - (15 + gapOf 15) % 128 - 7) = 94 from by decide, takes_128_94]; decide
theorem alive_len1 : (writ 0 true []).length = 7 := by rw [takes_of]; exact takes_0_0
theorem alive_len2 : (journal [] [[], [97]]).length = 15 := by
  rw [show ([[], [97]] : List (List UInt8)) = [[]] ++ [[97]] from rfl, journal_snoc, List.length_append]
  have e : (journal [] [[]]).length = 7 := alive_len1
  rw [e, takes_of]; exact congrArg (7 + ·) takes_7_1
theorem alive_len3 (z : List UInt8) (hz : z.length = 200) : (journal [] ([[], [97]] ++ [z])).length = 229 := by
  rw [journal_snoc, List.length_append, alive_len2, takes_of, hz, takes_15_200]
theorem partAt_behind (b : List UInt8) (n : Nat) : partAt (b ++ [0]) (b.length + n) = none := by
  unfold partAt
  split
  · rename_i a0 a1 a2 a3 l1 l0 k rest e
    have := congrArg List.length e
    rw [List.length_drop, List.length_append] at this
    simp only [List.length_cons, List.length_nil] at this
    omega
  · rfl
theorem read_behind (L : List (List UInt8)) : readAll (journal [] L ++ [0]) = (L, (journal [] L).length) := readAll_then _ _ (readFrom_none (partAt_behind _ _))
end Go.Sl
namespace Go.Proofs.YtmpgnnjhgjfgaaaDoor
open Go.RowKit Go.Sl
attribute [local go_sem] cell_of frozen_of zero_names conv_const conv_bs conv_nil make_bytes
theorem front3 {w w0 : World} {X A B S : Asn} (m : Mod w w0 (X * (A * (B * S)))) : Mod w w0 (A * (B * (X * S))) := Mod.to (m := m) (by ac_rfl)
theorem alive_shape {w w0 : World} {X D K R J G : Asn} (m : Mod w w0 (X * (D * (K * (R * (J * G)))))) : Mod w w0 (D * (J * (X * G))) := Mod.drop (A := K * R) (m := Mod.to (m := m) (by ac_rfl))
theorem alive_less {w w0 : World} {X Y D J S : Asn} (m : Mod w w0 (D * (J * (X * (Y * S))))) : Mod w w0 (D * (J * S)) := Mod.drop (A := X * Y) (m := Mod.to (m := m) (by ac_rfl))
theorem alive_less1 {w w0 : World} {X D J S : Asn} (m : Mod w w0 (D * (J * (X * S)))) : Mod w w0 (D * (J * S)) := Mod.drop (A := X) (m := Mod.to (m := m) (by ac_rfl))
theorem alive_less2 {w w0 : World} {X D J S : Asn} (m : Mod w w0 (D * (X * (J * S)))) : Mod w w0 (D * (J * S)) := Mod.drop (A := X) (m := Mod.to (m := m) (by ac_rfl))
/-- A record is added to a journal that is just one. -/
theorem jay_addJ (p g j : Nat) (L : List (List UInt8)) (su : Nat) (sd : Dir) (w w0 : World) (F : Asn) (B : Option Addr) (c : Nat) (rec : List UInt8) (m : Mod w w0 (diskA p (jay g (journal [] L) su sd) * (jourA j p nj (journal [] L).length * F))) (r : Reads F B rec.length (u8s rec)) (hc : rec.length ≤ c) (hl : rec.length ≤ 65536)
    (h : (journal [] (L ++ [rec])).length ≤ 1000000) :
    Calls Tryd.prog 15 #[ptr j, .slice B rec.length c] w fun e w' => e = .returned (.int .i64 0) ∧ Mod w' w0 (diskA p (jay g (journal [] (L ++ [rec])) su sd) * (jourA j p nj (journal [] (L ++ [rec])).length * F)) := by
  rw [journal_snoc] at h ⊢
  exact jay_add p g j _ su sd w w0 F B c rec m r hc hl (by rwa [List.length_append] at h)
set_option maxRecDepth 4000 in
set_option maxHeartbeats 2000000 in
theorem alive6_spec (w w0 : World) (S : Asn) (m : Mod w w0 S) : Calls Tryd.prog 10 #[] w fun e w' => e = .returned (.bool true) ∧ Mod w' w0 S := by
  go_enter Tryd.func10, Tryd.ntmps10
  go_wp2_with fail
  refine (opened6_spec w w0 S m).mono ?_
  rintro e w1 ⟨p, j, g, rfl, m1⟩
  go_wp2_with fail
  refine (jay_addJ p g j [] 0 [] w1 w0 S none 0 [] m1 (Reads.none_of _) (Nat.le_refl _) (by decide) (by rw [show ([] : List (List UInt8)) ++ [[]] = [[]] from rfl, show journal [] [[]] = writ 0 true [] from rfl, alive_len1]; decide)).mono ?_
  rintro e w2 ⟨rfl, m2⟩
  simp only [List.nil_append] at m2
  have hlen : (journal [] [[], [97]]).length ≤ 1000000 := by rw [alive_len2]; decide
  have Hlen := Lib.hid hlen
  clear hlen m1
  go_wp2_with fail
  refine (jay_addJ p g j [[]] 0 [] _ w0 (blk w2.heap.size (.cells #[.int .u8 97] 5 (1, 2)) * S) (some ⟨w2.heap.size, 0, none⟩) 1 [97] (front3 inferInstance) (reads_blk rfl rfl) (Nat.le_refl _) (by decide) Hlen.out).mono ?_
  rintro e w3 ⟨rfl, m3⟩
  simp only [List.cons_append, List.nil_append] at m3
  clear m2
  go_wp2_with fail
  have HS := jay_size p g (journal [] [[], [97]]) 0 [] w3 w0 _ _ m3 inferInstance
  rw [alive_len2] at HS
  refine HS.mono ?_
  rintro e w4 ⟨rfl, m4⟩
  clear HS m3
  go_wp2_with fail
  have HO := jay_open p g (journal [] [[], [97]]) 0 [] w4 w0 _ m4 (by rw [alive_len2]; decide)
  rw [readAll_journal, alive_len2] at HO
  refine HO.mono ?_
  rintro e w5 ⟨k, A, R, rfl, hrr, m5⟩
  replace hrr : ReadsRecs R A 2 [[], [97]] := hrr
  replace m5 : Mod w5 w0 (diskA p (jay g (journal [] [[], [97]]) 0 []) * (jourA k p nj 15 * (R * (jourA j p nj 15 * (blk w2.heap.size (.cells #[.int .u8 97] 5 (1, 2)) * S))))) := m5
  have mR : Mod w5 w0 R := Mod.sub R (m := m5)
  obtain ⟨b0, o0, hA, h0, B0, c0, hx0, -, -⟩ := reads_rec mR hrr (k := 0) (by decide)
  obtain ⟨b1, o1, hA1, h1, B1, c1, hx1, hr1, -⟩ := reads_rec mR hrr (k := 1) (by decide)
  subst hA
  injection hA1 with hA1
  injection hA1 with e1 e2
  subst e1 e2
  simp only [List.getElem_cons_zero, List.getElem_cons_succ, List.length_nil, List.length_cons, Nat.add_zero, Nat.zero_add] at hx0 hx1 hr1
  clear HO m4 mR hrr
  go_wp2_with fail
  obtain ⟨z, hz⟩ : ∃ z : List UInt8, List.replicate 200 0 = z := ⟨_, rfl⟩
  have hzl : z.length = 200 := by rw [← hz]; exact List.length_replicate
  have HA := jay_addJ p g j [[], [97]] 0 [] (w5.alloc (.cells (madeCells #[.int .u8 0] 200) 5)) w0 (blk w5.heap.size (.cells (madeCells #[.int .u8 0] 200) 5 (0, 0)) * (blk w2.heap.size (.cells #[.int .u8 97] 5 (1, 2)) * S)) (some ⟨w5.heap.size, 0, none⟩) 200 z
    (by rw [alive_len2]; exact alive_shape inferInstance) (reads_blk (by rw [made_u8s, hz]) (by rw [length_u8s])) (by omega) (by omega) (by rw [alive_len3 z hzl]; decide)
  rw [hzl, alive_len3 z hzl] at HA
  have Hz := Lib.hid hz
  have Hzl := Lib.hid hzl
  clear hz hzl hx0 hx1 hr1
  refine HA.mono ?_
  rintro e w6 ⟨rfl, m6⟩
  clear HA m5
  go_wp2_with fail
  have HS := jay_size p g (journal [] ([[], [97]] ++ [z])) 0 [] w6 w0 _ _ m6 inferInstance
  rw [alive_len3 z Hzl.out] at HS
  refine HS.mono ?_
  rintro e w7 ⟨rfl, m7⟩
  clear HS m6
  go_wp2_with fail
  refine (jay_sync p g j (journal [] ([[], [97]] ++ [z])) 0 [] w7 w0 _ 229 m7).mono ?_
  rintro e w8 ⟨rfl, m8⟩
  clear m7
  have m9 := alive_less m8
  clear m8
  have Hb : Hid ((journal [] ([[], [97]] ++ [z])).length = 229) := alive_len3 z Hzl.out
  have Hr := Lib.hid (read_behind ([[], [97]] ++ [z]))
  rw [Hb.out] at Hr m9
  obtain ⟨L, hL⟩ : ∃ L, ([[], [97]] ++ [z] : List (List UInt8)) = L := ⟨_, rfl⟩
  have hLl : L.length = 3 := by rw [← hL]; rfl
  rw [hL] at Hb Hr m9
  have HL := Lib.hid hLl
  clear hL hLl Hlen Hz Hzl
  generalize journal [] L = b at *
  go_wp2_with fail
  refine (add_limit j p _ nj _ w0 _ _ 65537 229 65537 (front3 inferInstance) (by omega)).mono ?_
  rintro e w10 ⟨rfl, m10⟩
  replace m10 := alive_less1 m10
  clear m9
  go_wp2_with fail
  have hb1 : (b ++ [0]).length = 230 := by rw [List.length_append, Hb.out]; rfl
  refine (jay_append p g b 229 [] (w10.alloc (.cells #[.int .u8 0] 5)) w0 _ _ inferInstance inferInstance (some ⟨w10.heap.size, 0, none⟩) 1 [0] (reads_blk rfl rfl) (by rw [Hb.out]; decide)).mono ?_
  rintro e w11 ⟨rfl, m11⟩
  simp only [emp_sep] at m11
  replace m11 := alive_less2 m11
  have Hb1 := Lib.hid hb1
  clear m10 hb1 Hb
  generalize b ++ [0] = b1 at *
  go_wp2_with fail
  refine (jay_add_state p g j b1 229 [] (w11.alloc (.cells #[.int .u8 98] 5 (1, 2))) w0 _ 229 (some ⟨w11.heap.size, 0, none⟩) 1 1 (front3 inferInstance) (by omega) (by rw [Hb1.out]; decide)).mono ?_
  rintro e w12 ⟨rfl, m12⟩
  replace m12 := alive_less1 m12
  clear m11
  go_wp2_with fail
  have HO := jay_open p g b1 229 [] w12 w0 _ m12 (by rw [Hb1.out]; decide)
  rw [Hr.out] at HO
  refine HO.mono ?_
  rintro e w13 ⟨k2, A2, R2, rfl, _, m13⟩
  replace m13 : Mod w13 w0 (diskA p (jay g b1 229 []) * (jourA k2 p nj 229 * (R2 * (jourA j p nj 229 * S)))) := m13
  replace m13 := alive_less m13
  rw [HL.out]
  clear HO m12
  go_wp2_with fail
  refine (jay_add_state p g k2 b1 229 [] (w13.alloc (.cells #[.int .u8 98] 5 (1, 2))) w0 _ 229 (some ⟨w13.heap.size, 0, none⟩) 1 1 (front3 inferInstance) (by omega) (by rw [Hb1.out]; decide)).mono ?_
  rintro e w14 ⟨rfl, m14⟩
  replace m14 := alive_less1 m14
  clear m13
  go_wp2_with fail
  go_ret
  exact ⟨rfl, Mod.drop (m := Mod.drop (m := m14))⟩
end Go.Proofs.YtmpgnnjhgjfgaaaDoor
