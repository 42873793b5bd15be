/- The walk of JournalsTurned: it returns true and changes nothing that was there; no condition. -/
import Derived.Test.YtmpgnnjhgjfgaaaDoorJournalsCutWalk
namespace Go.Sl
/-- .. so many of the bytes from a place on turned -/
def turned (o : Nat) (t : Nat → UInt8) : Nat → List UInt8 → List UInt8
  | 0, b => b
  | i + 1, b => (turned o t i b).modify (o + i) (· ^^^ t i)
theorem length_turned (o : Nat) (t : Nat → UInt8) (b : List UInt8) : ∀ i, (turned o t i b).length = b.length
  | 0 => rfl
  | i + 1 => by rw [turned, List.length_modify, length_turned o t b i]
theorem turned_four (o : Nat) (t : Nat → UInt8) (b : List UInt8) (h : o + 4 ≤ b.length) : turned o t 4 b = turn4 o (t 0) (t 1) (t 2) (t 3) b := by
  obtain ⟨c0, c1, c2, c3, rest, e⟩ : ∃ c0 c1 c2 c3 rest, b.drop o = c0 :: c1 :: c2 :: c3 :: rest := by
    have hl : (b.drop o).length = b.length - o := List.length_drop
    match hd : b.drop o with
    | [] => rw [hd] at hl; simp at hl; omega
    | [_] => rw [hd] at hl; simp at hl; omega
    | [_, _] => rw [hd] at hl; simp at hl; omega
    | [_, _, _] => rw [hd] at hl; simp at hl; omega
    | c0 :: c1 :: c2 :: c3 :: rest => exact ⟨c0, c1, c2, c3, rest, rfl⟩
  have hb : b = b.take o ++ c0 :: c1 :: c2 :: c3 :: rest := by rw [← e, List.take_append_drop]
  have hto : (b.take o).length = o := by rw [List.length_take]; omega
  unfold turn4
  rw [e]
  generalize b.take o = a at *
  subst hb hto
  have key : ∀ (a l : List UInt8) (i : Nat) (f : UInt8 → UInt8), (a ++ l).modify (a.length + i) f = a ++ l.modify i f := fun a l i f => by
    induction a with
    | nil => simp
    | cons x a ih => rw [List.length_cons, show a.length + 1 + i = (a.length + i) + 1 by omega, List.cons_append, List.modify_succ_cons, ih, List.cons_append]
  simp only [turned, key, List.modify_succ_cons, List.modify_zero_cons]
theorem turn_room (l m : List (List UInt8)) (x : List UInt8) (a Q : Nat) (ha : a = (journal [] l).length) (hQ : Q = a + gapOf a) (h4 : 4 ≤ x.length) (hr : Q % 128 ≤ 117) : Q + 11 ≤ (journal [] (l ++ x :: m)).length := by
  obtain ⟨t, e⟩ := journal_tail m (journal [] (l ++ [x]))
  rw [show l ++ x :: m = (l ++ [x]) ++ m by simp, journal_append, e, journal_snoc, List.length_append, List.length_append, ← ha, writ_len]
  have : 4 ≤ fits a x := by unfold fits; rw [← hQ]; omega
  omega
/-- the four bytes of a number -/
def turnByte (bits i : Nat) : UInt8 := UInt8.ofNat (bits / 2 ^ (8 * i))
theorem turnByte_ne (bits : Nat) (h : bits < 4294967296) (h0 : bits ≠ 0) : ¬ (turnByte bits 0 = 0 ∧ turnByte bits 1 = 0 ∧ turnByte bits 2 = 0 ∧ turnByte bits 3 = 0) := by
  rintro ⟨h1, h2, h3, h4⟩
  have k1 := congrArg UInt8.toNat h1
  have k2 := congrArg UInt8.toNat h2
  have k3 := congrArg UInt8.toNat h3
  have k4 := congrArg UInt8.toNat h4
  simp only [turnByte, UInt8.toNat_ofNat'] at k1 k2 k3 k4
  rw [show (2 : Nat) ^ (8 * 0) = 1 from rfl] at k1
  rw [show (2 : Nat) ^ (8 * 1) = 256 from rfl] at k2
  rw [show (2 : Nat) ^ (8 * 2) = 65536 from rfl] at k3
  rw [show (2 : Nat) ^ (8 * 3) = 16777216 from rfl] at k4
  simp only [show (2 : Nat) ^ 8 = 256 from rfl, show UInt8.toNat 0 = 0 from rfl] at k1 k2 k3 k4
  omega
end Go.Sl
namespace Go.Proofs.YtmpgnnjhgjfgaaaDoor
open Go.RowKit Go.Sl
attribute [local go_sem] cell_of frozen_of zero_names conv_const conv_bs conv_nil make_bytes
/-- A row's block. -/
theorem row_open {w w0 : World} {e : TypeId} {A : Option Addr} {n c : Nat} {xs : List Value} {F : Asn} (m : Mod w w0 (rowA e 1 (.slice A n c) n xs * F)) (hn : 0 < n) : ∃ g cur, A = some ⟨g, 0, none⟩ ∧ n ≤ cur.size ∧ c ≤ maxLen ∧ xs.length = n ∧ cur.size = c ∧ cur.toList.take n = xs ∧ Mod w w0 (blk g (.cells cur e (0, 0)) * F) := by
  have h := m.says
  rw [sep_assoc] at h
  obtain ⟨a, b, h1, h2, ⟨hl, h3⟩, h4⟩ := h
  rcases h3 with ⟨_, h0, _⟩ | ⟨g, cap, cur, hv, k1, k2, k3, k4, rfl⟩
  · omega
  · injection hv with e1 e2 e3
    subst e1 e3
    rw [Nat.mul_one] at k3 k4 hl
    exact ⟨g, cur, rfl, by omega, k2, hl, k3, k4, m.os, m.tape, m.output, by rw [sep_assoc]; exact ⟨_, b, h1, h2, rfl, h4⟩⟩
theorem row_shut {w w0 : World} {e : TypeId} {g n c : Nat} {cur : Array Value} {xs : List Value} {F : Asn} (m : Mod w w0 (blk g (.cells cur e (0, 0)) * F)) (h1 : n ≤ c) (h2 : c ≤ maxLen) (h3 : cur.size = c) (h4 : xs.length = n) (h5 : cur.toList.take n = xs) : Mod w w0 (rowA e 1 (.slice (some ⟨g, 0, none⟩) n c) n xs * F) := by
  refine Mod.conv (S := blk g (.cells cur e (0, 0)) * F) (m := m) fun x hx => sep_imp (A := blk g (.cells cur e (0, 0))) (fun y hy => ?_) hx
  exact ⟨by omega, .inr ⟨g, c, cur, rfl, h1, h2, by omega, by rw [Nat.mul_one]; exact h5, hy⟩⟩
theorem turn_value (v : UInt8) (n t : Nat) : Go.bits BinOp.xor IntKind.u8 (v.toNat : Int) ((n : Int) / 2 ^ (8 * t) % 256) = ((v ^^^ turnByte n t).toNat : Int) := by
  have e : ((n : Int) / 2 ^ (8 * t) % 256) = ((n / 2 ^ (8 * t) % 256 : Nat) : Int) := by rw [Int.natCast_emod, Int.natCast_ediv, Int.natCast_pow]; rfl
  rw [e, u8_xor_nat _ _ v.toNat_lt (by omega), UInt8.toNat_xor]
  simp only [turnByte, UInt8.toNat_ofNat']
theorem set_take {cs : Array Value} {N k : Nat} {L : List UInt8} (h : cs.toList.take N = u8s L) (f : UInt8 → UInt8) (hk : k < L.length) : (cs.setIfInBounds k (.int .u8 ((f L[k]).toNat : Int))).toList.take N = u8s (L.modify k f) := by
  rw [Array.toList_setIfInBounds, List.take_set, h]
  apply List.ext_getElem?
  intro i
  simp only [u8s, List.getElem?_set, List.getElem?_map, List.getElem?_modify, List.length_map]
  by_cases hik : k = i
  · subst hik; simp [hk]
  · simp [hik]
theorem le_sizesR : ∀ {rs : List (List UInt8)} {r : List UInt8}, r ∈ rs → r.length ≤ sizesR rs
  | x :: rs, r, h => by
    rcases List.mem_cons.1 h with rfl | h
    · simp only [sizesR]; omega
    · have := le_sizesR h
      simp only [sizesR]; omega
set_option maxRecDepth 4000 in
set_option maxHeartbeats 4000000 in
theorem journalsTurned_run (B1 : Option Addr) (n c1 : Nat) (rs : List (List UInt8)) (which bits : Nat) (w w0 : World) (S : Asn) (m : Mod w w0 S) (r1 : ReadsRecs S B1 n rs) (hc : n ≤ c1) (hn : n ≤ 4611686018427387903) (hxs : ∀ s ∈ rs, s.length ≤ 4611686018427387904) (hwhich : which < 256) (hbits : bits < 4294967296) :
    Calls Tryd.prog 6 #[.slice B1 n c1, .int .u8 (which : Int), .int .u32 (bits : Int)] w fun e w' => e = .returned (.bool true) ∧ Mod w' w0 S := by
  have hl := r1.len
  obtain ⟨t1, t2⟩ := recsSize_gt rs n
  have HT := Lib.hid t2
  have Hxs := Lib.hid hxs
  have Hl := Lib.hid hl
  clear t2 hxs hl
  by_cases hlen : 20 < n
  · go_enter Tryd.func6, Tryd.ntmps6
    go_wp2_with first
      | (go_at_call 10; refine (alive6_spec _ w0 _ (by assumption)).mono ?_; rintro e w1 ⟨rfl, _m1⟩; try clear m)
    go_ret
    exact ⟨rfl, _m1⟩
  · have HC := Lib.hid (fun (u : World) (mu : Mod u w0 S) => recordsSize_spec B1 n c1 rs u w0 S mu r1 (by omega) Hxs.out)
    obtain ⟨sz, hsz⟩ : ∃ sz, recsSize n rs = sz := ⟨_, rfl⟩
    rw [hsz] at HC HT
    clear hsz
    by_cases h7 : 2000 < sz ∨ n = 0 ∨ bits = 0
    · go_enter Tryd.func6, Tryd.ntmps6
      go_wp2_with fail
      refine (alive6_spec _ w0 _ m).mono ?_
      rintro e w1 ⟨rfl, m1⟩
      go_wp2_with fail
      refine (HC.out w1 m1).mono ?_
      rintro e w2 ⟨rfl, m2⟩
      by_cases h8 : 2000 < sz
      · go_wp2_with fail
        refine (alive6_spec _ w0 _ m2).mono ?_
        rintro e w3 ⟨rfl, m3⟩
        go_wp2_with fail
        go_ret
        exact ⟨rfl, m3⟩
      · by_cases h9 : n = 0
        · have c5 : ((n : Int) == 0) = true := by rw [h9]; rfl
          clear h9 h7
          go_wp2_with fail
          refine (alive6_spec _ w0 _ m2).mono ?_
          rintro e w3 ⟨rfl, m3⟩
          go_wp2_with fail
          go_ret
          exact ⟨rfl, m3⟩
        · have c5 : ((n : Int) == 0) = false := beq_eq_false_iff_ne.2 (by omega)
          have c6 : ((bits : Int) == 0) = true := by rw [(h7.resolve_left h8).resolve_left h9]; rfl
          clear h9 h7
          go_wp2_with fail
          refine (alive6_spec _ w0 _ m2).mono ?_
          rintro e w3 ⟨rfl, m3⟩
          go_wp2_with fail
          go_ret
          exact ⟨rfl, m3⟩
    · have hn0 : n ≠ 0 := by omega
      have hb0 : bits ≠ 0 := by omega
      have h8 : sz ≤ 2000 := by omega
      have c5 : ((n : Int) == 0) = false := beq_eq_false_iff_ne.2 (by omega)
      have c6 : ((bits : Int) == 0) = false := beq_eq_false_iff_ne.2 (by omega)
      have hnp : (0 : Int) < (n : Int) := by omega
      have Hsz := Lib.hid (HT.out (by omega))
      clear HT h7
      go_enter Tryd.func6, Tryd.ntmps6
      go_wp2_with fail
      refine (alive6_spec _ w0 _ m).mono ?_
      rintro e w1 ⟨rfl, m1⟩
      go_wp2_with fail
      refine (HC.out w1 m1).mono ?_
      rintro e w2 ⟨rfl, m2⟩
      go_wp2_with fail
      refine (opened6_spec w2 w0 S m2).mono ?_
      rintro e w3 ⟨p, j, g, rfl, m3⟩
      go_wp2_with fail
      obtain ⟨K, hK⟩ : ∃ K : Nat, which % n = K := ⟨_, rfl⟩
      have hKn : K < n := by rw [← hK]; exact Nat.mod_lt which (by omega)
      have hK2 : ((which : Int) % (n : Int)) = (K : Int) := by rw [← hK]; simp
      rw [hK2]
      clear hK hK2
      have hJ : ∀ i, (journal [] (rs.take i)).length ≤ 10000 := fun i => by
        have := journal_le rs [] i
        rw [sum_sizes] at this
        have h1 := Hsz.out
        have h2 := Hl.out
        simp only [List.length_nil] at this
        omega
      have HJ := Lib.hid hJ
      have hR : ∀ r ∈ rs, r.length ≤ 2000 := fun r hr => by have := le_sizesR hr; have h1 := Hsz.out; omega
      have HR := Lib.hid hR
      clear hJ hR m m1 m2 HC
      obtain ⟨G, m4, rG1, sG⟩ : ∃ G, Mod w3 w0 (diskA p (jay g [] 0 []) * (jourA j p nj 0 * G)) ∧ ReadsRecs G B1 n rs ∧ Sub G S := ⟨S, m3, r1, inferInstance⟩
      clear m3 r1
      go_loopg [10, 11] n (fun gk av iv wr => ∃ (i a : Nat), i ≤ n ∧ gk = n - i ∧ av = .int .i64 (a : Int) ∧ iv = .int .i64 (i : Int) ∧ Hid (K < i → a = (journal [] (rs.take K)).length) ∧ Mod wr w0 (diskA p (jay g (journal [] (rs.take i)) 0 []) * (jourA j p nj (journal [] (rs.take i)).length * G)))
      case atStart => exact ⟨0, 0, Nat.zero_le _, rfl, rfl, rfl, (fun h => by omega), m4⟩
      case round =>
        obtain ⟨i, a, hin, hgk, rfl, rfl, HA, m5⟩ := hrel
        by_cases hlt : i < n
        · have hki : (i : Int) < (n : Int) := by omega
          obtain ⟨b1, o1, hB1, hkl, B, cB, hxA, rB, hcB⟩ := reads_rec_all (Mod.sub G (m := m5)) rG1 hlt
          subst hB1
          have hx2 : rs[i].length ≤ 2000 := HR.out _ (List.getElem_mem hkl)
          have htk : Hid (rs.take (i + 1) = rs.take i ++ [rs[i]]) := List.take_succ_eq_append_getElem hkl
          have HJ2 : Hid ((journal [] (rs.take i ++ [rs[i]])).length ≤ 1000000) := by rw [← htk.out]; exact Nat.le_trans (HJ.out _) (by omega)
          have HxA := Lib.hid hxA
          clear hxA
          generalize rs[i] = x at *
          clear hkl
          go_wp2_with fail
          refine (jay_size p g (journal [] (rs.take i)) 0 [] wr w0 _ _ m5 inferInstance).mono ?_
          rintro e w6 ⟨rfl, m6⟩
          clear m5
          have hx : w6.cell? ⟨b1, o1 + i, none⟩ = _ := HxA.out ⟨w6, Mod.sub G (m := m6)⟩
          go_wp2_with fail
          refine (jay_addJ p g j (rs.take i) 0 [] w6 w0 _ B cB x m6 rB hcB (by omega) HJ2.out).mono ?_
          rintro e w9 ⟨rfl, m9⟩
          rw [← htk.out] at m9
          clear m6
          by_cases hiK : i = K
          · have c7 : ((i : Int) == (K : Int)) = true := by rw [hiK]; simp
            have HiK := Lib.hid hiK
            clear hiK
            go_wp2_with fail
            go_roundg (n - (i + 1))
            case measure => omega
            case rel => exact ⟨i + 1, _, by omega, rfl, rfl, by go_num, (fun _ => by rw [HiK.out]), m9⟩
          · have c7 : ((i : Int) == (K : Int)) = false := beq_eq_false_iff_ne.2 (by omega)
            have HiK := Lib.hid hiK
            clear hiK
            go_wp2_with fail
            go_roundg (n - (i + 1))
            case measure => omega
            case rel => exact ⟨i + 1, a, by omega, rfl, rfl, by go_num, (fun h => HA.out (by have := HiK.out; omega)), m9⟩
        · have hi : i = n := by omega
          subst hi
          have htk : rs.take i = rs := List.take_of_length_le (by rw [Hl.out]; omega)
          have hj := HJ.out i
          rw [htk] at m5 hj
          have haK := HA.out hKn
          have haJ : a ≤ 10000 := by rw [haK]; exact HJ.out K
          have HaK := Lib.hid haK
          clear haK HA htk
          go_wp2_with fail
          obtain ⟨N, hN⟩ : ∃ N, (journal [] rs).length = N := ⟨_, rfl⟩
          obtain ⟨b, hb⟩ : ∃ b, journal [] rs = b := ⟨_, rfl⟩
          have HS := jay_size p g (journal [] rs) 0 [] wr w0 _ _ m5 inferInstance
          rw [hN] at HS hj m5
          rw [hb] at HS m5
          refine HS.mono ?_
          rintro e w6 ⟨rfl, m6⟩
          clear HS m5
          have HN : Hid (b.length = N) := by rw [← hb]; exact hN
          have Hb := Lib.hid hb
          clear hN hb
          go_wp2_with fail
          have HRd := read_ok p (jay g b 0 []) nj w6 w0 _ _ m6 inferInstance size_j 0 N g ⟨b, 0⟩ ok_j (mget_one _ _) (fget_one _ _) (by show 0 + N ≤ b.length; rw [HN.out]; omega)
          refine HRd.mono ?_
          rintro e w7 ⟨A1, cr, rfl, m7⟩
          rw [List.drop_zero, List.take_of_length_le (by show b.length ≤ N; rw [HN.out]; omega)] at m7
          clear HRd m6
          go_wp2_with fail
          refine (remove_ok p (jay g b 0 []) nj w7 w0 _ _ m7 inferInstance size_j g ok_j (mget_one _ _)).mono ?_
          rintro e w8 ⟨rfl, m8⟩
          clear m7
          go_wp2_with fail
          refine (create_ok p { jay g b 0 [] with now := mdel (jay g b 0 []).now nj } nj w8 w0 _ _ m8 inferInstance size_j ok_j (by simp [one, mdel, mget]) (by simp [one, mdel])).mono ?_
          rintro e w9 ⟨g2, rfl, hf2, m9⟩
          have hgg : g2 ≠ g := fun e => by subst e; simp [one, fget] at hf2
          have m10 : Mod w9 w0 (rowA 5 1 (.slice A1 N cr) N (u8s b) * (diskA p (moved 1000000 nj g ⟨b, 0⟩ g2 ⟨[], 0⟩ []) * G)) := by
            have e : created { jay g b 0 [] with now := mdel (jay g b 0 []).now nj } nj g2 = moved 1000000 nj g ⟨b, 0⟩ g2 ⟨[], 0⟩ [] := by simp [created, one, mdel, mput, moved]
            rw [e] at m9
            simp only [emp_sep] at m9
            exact Mod.drop (A := jourA j p nj N) (m := Mod.to (m := m9) (by ac_rfl))
          clear m8 m9 hf2
          obtain ⟨b1, o1, hB1, hkl, B, cB, hxA, rB, hcB⟩ := reads_rec_all (Mod.sub G (m := m10)) rG1 hKn
          subst hB1
          have hx2 : rs[K].length ≤ 2000 := HR.out _ (List.getElem_mem hkl)
          have hx : w9.cell? ⟨b1, o1 + K, none⟩ = _ := hxA ⟨w9, Mod.sub G (m := m10)⟩
          have hsplit : Hid (rs = rs.take K ++ rs[K] :: rs.drop (K + 1)) := by
            show _ = _
            rw [← List.drop_eq_getElem_cons hkl, List.take_append_drop]
          generalize rs[K] = x at *
          clear hkl hxA
          obtain ⟨r, hr⟩ : ∃ r, a % 128 = r := ⟨_, rfl⟩
          have hri : ((a : Int) % 128) = (r : Int) := by omega
          have hr128 : r < 128 := by omega
          by_cases hlf : 120 < r
          · obtain ⟨Q, hQ⟩ : ∃ Q, a + (128 - r) = Q := ⟨_, rfl⟩
            have hQi : ((a : Int) + 128 - (r : Int)) = (Q : Int) := by omega
            have hl8 : (128 : Int) - (r : Int) < 8 := by omega
            have hq : Q = a + gapOf a := by unfold gapOf; rw [if_pos (by omega), hr, hQ]
            have Hq := Lib.hid hq
            clear hq hQ
            obtain ⟨r2, hr2⟩ : ∃ r2, Q % 128 = r2 := ⟨_, rfl⟩
            have hri2 : ((Q : Int) % 128) = (r2 : Int) := by omega
            have hr22 : r2 < 128 := by omega
            have Hr := Lib.hid hr
            have Hr2 := Lib.hid hr2
            clear hr hr2
            by_cases hret : x.length < 4 ∨ 117 < r2
            · have hxl : (x.length : Int) < 4 ∨ ¬ ((x.length : Int) < 4) ∧ (128 : Int) - (r2 : Int) < 11 := by omega
              clear hret
              rcases hxl with hxl | ⟨hxl, hrl⟩
              · go_wp2_with fail
                go_ret
                exact ⟨rfl, Mod.sub S (m := Mod.sub G (m := m10))⟩
              · go_wp2_with fail
                go_ret
                exact ⟨rfl, Mod.sub S (m := Mod.sub G (m := m10))⟩
            · have hxl : ¬ ((x.length : Int) < 4) := by omega
              have hrl : ¬ ((128 : Int) - (r2 : Int) < 11) := by omega
              have hx4 : 4 ≤ x.length := by omega
              have hr3 : r2 ≤ 117 := by omega
              clear hret
              go_wp2_with fail
              have hroom : Q + 11 ≤ N := by
                rw [← HN.out, ← Hb.out, hsplit.out]
                exact turn_room _ _ _ a Q HaK.out Hq.out hx4 (by rw [Hr2.out]; exact hr3)
              obtain ⟨gA, cur, rfl, hcn, hcm, _, hcs, hcur, m11⟩ := row_open m10 (by omega)
              rw [hcs] at hcn
              clear m10 hx
              go_loopg [18] 4 (fun gk2 tv wr2 => ∃ (t : Nat) (cs : Array Value), t ≤ 4 ∧ gk2 = 4 - t ∧ tv = .int .i64 (t : Int) ∧ cs.size = cr ∧ Hid (cs.toList.take N = u8s (turned (Q + 7) (turnByte bits) t b)) ∧ Mod wr2 w0 (blk gA (.cells cs 5 (0, 0)) * (diskA p (moved 1000000 nj g ⟨b, 0⟩ g2 ⟨[], 0⟩ []) * G)))
              case atStart => exact ⟨0, cur, by omega, rfl, rfl, hcs, hcur, m11⟩
              case round =>
                obtain ⟨t, cs, ht4, hgk2, rfl, hcs2, HC2, m12⟩ := hrel
                by_cases htlt : t < 4
                · have hti : (t : Int) < 4 := by omega
                  have hLl : (turned (Q + 7) (turnByte bits) t b).length = N := by rw [length_turned, HN.out]
                  obtain ⟨L, hL⟩ : ∃ L, turned (Q + 7) (turnByte bits) t b = L := ⟨_, rfl⟩
                  rw [hL] at hLl HC2
                  have hlt2 : Q + 7 + t < L.length := by omega
                  have hcell : cs[Q + 7 + t]? = some (.int .u8 (L[Q + 7 + t].toNat : Int)) := by
                    have h1 : (cs.toList.take N)[Q + 7 + t]? = (u8s L)[Q + 7 + t]? := by rw [HC2.out]
                    rw [List.getElem?_take_of_lt (by omega), Array.getElem?_toList] at h1
                    rw [h1]; simp [u8s, hlt2]
                  have hQN : (Q : Int) + 7 + (t : Int) < (N : Int) := by omega
                  have HL := Lib.hid hL
                  have HLl := Lib.hid hLl
                  clear hL hLl
                  generalize hv : L[Q + 7 + t] = v at *
                  have Hv := Lib.hid hv
                  clear hv
                  go_wp2_with fail
                  rw [turn_value]
                  have m13 : Mod (wr.setCell ⟨gA, Q + 7 + t, none⟩ (.int .u8 ((v ^^^ turnByte bits t).toNat : Int))) w0 _ := inferInstance
                  simp only [emp_sep] at m13
                  go_roundg (4 - (t + 1))
                  case measure => omega
                  case rel =>
                    refine ⟨t + 1, _, by omega, rfl, by go_num, by simpa using hcs2, ?_, m13⟩
                    show _ = u8s ((turned (Q + 7) (turnByte bits) t b).modify (Q + 7 + t) (· ^^^ turnByte bits t))
                    rw [HL.out, ← set_take HC2.out _ hlt2, Hv.out]
                · have ht : t = 4 := by omega
                  subst ht
                  have hti : ¬ (((4 : Nat) : Int) < 4) := by omega
                  have h4 : turned (Q + 7) (turnByte bits) 4 b = turn4 (Q + 7) (turnByte bits 0) (turnByte bits 1) (turnByte bits 2) (turnByte bits 3) b := turned_four _ _ _ (by rw [HN.out]; omega)
                  have hll := length_turned (Q + 7) (turnByte bits) b 4
                  rw [h4] at HC2 hll
                  have hread := readAll_turned (rs.take K) (rs.drop (K + 1)) x (turnByte bits 0) (turnByte bits 1) (turnByte bits 2) (turnByte bits 3) hx4 (by rw [← HaK.out, ← Hq.out, Hr2.out]; omega) (turnByte_ne bits hbits hb0)
                  rw [← HaK.out, ← Hq.out, ← hsplit.out, Hb.out] at hread
                  generalize turn4 (Q + 7) (turnByte bits 0) (turnByte bits 1) (turnByte bits 2) (turnByte bits 3) b = L at *
                  rw [HN.out] at hll
                  have m13 := row_shut m12 hcn hcm hcs2 (by rw [length_u8s]; exact hll) HC2.out
                  go_wp2_with fail
                  have hA := append_len p (moved 1000000 nj g ⟨b, 0⟩ g2 ⟨[], 0⟩ []) nj wr w0 _ _ m13 inferInstance size_j (some ⟨gA, 0, none⟩) N cr L hll g2 ⟨[], 0⟩ ok_j (mget_one _ _) (by simp [moved, fget]) (by rw [left_moved]; simp only [List.length_nil]; omega) (by simp only [List.length_nil]; omega)
                  refine hA.mono ?_
                  rintro e w14 ⟨rfl, m14⟩
                  have e2 : ({ moved 1000000 nj g ⟨b, 0⟩ g2 ⟨[], 0⟩ [] with files := fset (moved 1000000 nj g ⟨b, 0⟩ g2 ⟨[], 0⟩ []).files g2 ⟨[] ++ L, 0⟩ } : DiskSt) = moved 1000000 nj g ⟨b, 0⟩ g2 ⟨L, 0⟩ [] := by simp [moved, fset]
                  have m15 : Mod w14 w0 (diskA p (moved 1000000 nj g ⟨b, 0⟩ g2 ⟨L, 0⟩ []) * G) := by rw [← e2]; exact repack1 (diskA p) m14
                  have HLl := Lib.hid hll
                  have Hread := Lib.hid hread
                  clear hA m14 m13 m12 e2 h4 HC2 hll hread
                  go_wp2_with fail
                  have hO := jopen_there p (moved 1000000 nj g ⟨b, 0⟩ g2 ⟨L, 0⟩ []) nj w14 w0 _ m15 size_j g2 ⟨L, 0⟩ ok_j (mget_one _ _) (by simp [moved, fget]) (by simp only [HLl.out]; omega)
                  simp only [Hread.out] at hO
                  refine hO.mono ?_
                  rintro e w16 ⟨k2, A2, R, rfl, hrr, m16⟩
                  clear hO m15
                  have hlK : (rs.take K).length = K := by rw [List.length_take, Hl.out]; omega
                  dsimp only at hrr m16 ⊢
                  rw [hlK] at hrr ⊢
                  have HlK := Lib.hid hlK
                  clear hlK
                  have hKc : (K : Int) ≤ (c1 : Int) := by omega
                  go_wp2_with fail
                  refine (sameRecords_spec A2 (some ⟨b1, o1, none⟩) K K K c1 (rs.take K) (rs.take K) w16 w0 _ m16 (hrr.lift inferInstance) ((rG1.pre K (by omega)).lift inferInstance) (by omega) (by omega) (fun s hs => Hxs.out s (List.mem_of_mem_take hs)) (fun s hs => Hxs.out s (List.mem_of_mem_take hs))).mono ?_
                  rw [decide_eq_true rfl]
                  rintro e w17 ⟨rfl, m17⟩
                  go_wp2_with fail
                  go_ret
                  exact ⟨rfl, Mod.sub S (m := Mod.sub G (m := m17))⟩
          · have hl8 : ¬ ((128 : Int) - (r : Int) < 8) := by omega
            have hq : a = a + gapOf a := by unfold gapOf; rw [if_neg (by omega)]; rfl
            have Hq := Lib.hid hq
            have Hr2 := Lib.hid hr
            clear hq hr
            by_cases hret : x.length < 4 ∨ 117 < r
            · have hxl : (x.length : Int) < 4 ∨ ¬ ((x.length : Int) < 4) ∧ (128 : Int) - (r : Int) < 11 := by omega
              clear hret
              rcases hxl with hxl | ⟨hxl, hrl⟩
              · go_wp2_with fail
                go_ret
                exact ⟨rfl, Mod.sub S (m := Mod.sub G (m := m10))⟩
              · go_wp2_with fail
                go_ret
                exact ⟨rfl, Mod.sub S (m := Mod.sub G (m := m10))⟩
            · have hxl : ¬ ((x.length : Int) < 4) := by omega
              have hrl : ¬ ((128 : Int) - (r : Int) < 11) := by omega
              have hx4 : 4 ≤ x.length := by omega
              have hr3 : r ≤ 117 := by omega
              clear hret
              go_wp2_with fail
              have hroom : a + 11 ≤ N := by
                rw [← HN.out, ← Hb.out, hsplit.out]
                exact turn_room _ _ _ a a HaK.out Hq.out hx4 (by rw [Hr2.out]; exact hr3)
              obtain ⟨gA, cur, rfl, hcn, hcm, _, hcs, hcur, m11⟩ := row_open m10 (by omega)
              rw [hcs] at hcn
              clear m10 hx
              go_loopg [18] 4 (fun gk2 tv wr2 => ∃ (t : Nat) (cs : Array Value), t ≤ 4 ∧ gk2 = 4 - t ∧ tv = .int .i64 (t : Int) ∧ cs.size = cr ∧ Hid (cs.toList.take N = u8s (turned (a + 7) (turnByte bits) t b)) ∧ Mod wr2 w0 (blk gA (.cells cs 5 (0, 0)) * (diskA p (moved 1000000 nj g ⟨b, 0⟩ g2 ⟨[], 0⟩ []) * G)))
              case atStart => exact ⟨0, cur, by omega, rfl, rfl, hcs, hcur, m11⟩
              case round =>
                obtain ⟨t, cs, ht4, hgk2, rfl, hcs2, HC2, m12⟩ := hrel
                by_cases htlt : t < 4
                · have hti : (t : Int) < 4 := by omega
                  have hLl : (turned (a + 7) (turnByte bits) t b).length = N := by rw [length_turned, HN.out]
                  obtain ⟨L, hL⟩ : ∃ L, turned (a + 7) (turnByte bits) t b = L := ⟨_, rfl⟩
                  rw [hL] at hLl HC2
                  have hlt2 : a + 7 + t < L.length := by omega
                  have hcell : cs[a + 7 + t]? = some (.int .u8 (L[a + 7 + t].toNat : Int)) := by
                    have h1 : (cs.toList.take N)[a + 7 + t]? = (u8s L)[a + 7 + t]? := by rw [HC2.out]
                    rw [List.getElem?_take_of_lt (by omega), Array.getElem?_toList] at h1
                    rw [h1]; simp [u8s, hlt2]
                  have hQN : (a : Int) + 7 + (t : Int) < (N : Int) := by omega
                  have HL := Lib.hid hL
                  have HLl := Lib.hid hLl
                  clear hL hLl
                  generalize hv : L[a + 7 + t] = v at *
                  have Hv := Lib.hid hv
                  clear hv
                  go_wp2_with fail
                  rw [turn_value]
                  have m13 : Mod (wr.setCell ⟨gA, a + 7 + t, none⟩ (.int .u8 ((v ^^^ turnByte bits t).toNat : Int))) w0 _ := inferInstance
                  simp only [emp_sep] at m13
                  go_roundg (4 - (t + 1))
                  case measure => omega
                  case rel =>
                    refine ⟨t + 1, _, by omega, rfl, by go_num, by simpa using hcs2, ?_, m13⟩
                    show _ = u8s ((turned (a + 7) (turnByte bits) t b).modify (a + 7 + t) (· ^^^ turnByte bits t))
                    rw [HL.out, ← set_take HC2.out _ hlt2, Hv.out]
                · have ht : t = 4 := by omega
                  subst ht
                  have hti : ¬ (((4 : Nat) : Int) < 4) := by omega
                  have h4 : turned (a + 7) (turnByte bits) 4 b = turn4 (a + 7) (turnByte bits 0) (turnByte bits 1) (turnByte bits 2) (turnByte bits 3) b := turned_four _ _ _ (by rw [HN.out]; omega)
                  have hll := length_turned (a + 7) (turnByte bits) b 4
                  rw [h4] at HC2 hll
                  have hread := readAll_turned (rs.take K) (rs.drop (K + 1)) x (turnByte bits 0) (turnByte bits 1) (turnByte bits 2) (turnByte bits 3) hx4 (by rw [← HaK.out, ← Hq.out, Hr2.out]; omega) (turnByte_ne bits hbits hb0)
                  rw [← HaK.out, ← Hq.out, ← hsplit.out, Hb.out] at hread
                  generalize turn4 (a + 7) (turnByte bits 0) (turnByte bits 1) (turnByte bits 2) (turnByte bits 3) b = L at *
                  rw [HN.out] at hll
                  have m13 := row_shut m12 hcn hcm hcs2 (by rw [length_u8s]; exact hll) HC2.out
                  go_wp2_with fail
                  have hA := append_len p (moved 1000000 nj g ⟨b, 0⟩ g2 ⟨[], 0⟩ []) nj wr w0 _ _ m13 inferInstance size_j (some ⟨gA, 0, none⟩) N cr L hll g2 ⟨[], 0⟩ ok_j (mget_one _ _) (by simp [moved, fget]) (by rw [left_moved]; simp only [List.length_nil]; omega) (by simp only [List.length_nil]; omega)
                  refine hA.mono ?_
                  rintro e w14 ⟨rfl, m14⟩
                  have e2 : ({ moved 1000000 nj g ⟨b, 0⟩ g2 ⟨[], 0⟩ [] with files := fset (moved 1000000 nj g ⟨b, 0⟩ g2 ⟨[], 0⟩ []).files g2 ⟨[] ++ L, 0⟩ } : DiskSt) = moved 1000000 nj g ⟨b, 0⟩ g2 ⟨L, 0⟩ [] := by simp [moved, fset]
                  have m15 : Mod w14 w0 (diskA p (moved 1000000 nj g ⟨b, 0⟩ g2 ⟨L, 0⟩ []) * G) := by rw [← e2]; exact repack1 (diskA p) m14
                  have HLl := Lib.hid hll
                  have Hread := Lib.hid hread
                  clear hA m14 m13 m12 e2 h4 HC2 hll hread
                  go_wp2_with fail
                  have hO := jopen_there p (moved 1000000 nj g ⟨b, 0⟩ g2 ⟨L, 0⟩ []) nj w14 w0 _ m15 size_j g2 ⟨L, 0⟩ ok_j (mget_one _ _) (by simp [moved, fget]) (by simp only [HLl.out]; omega)
                  simp only [Hread.out] at hO
                  refine hO.mono ?_
                  rintro e w16 ⟨k2, A2, R, rfl, hrr, m16⟩
                  clear hO m15
                  have hlK : (rs.take K).length = K := by rw [List.length_take, Hl.out]; omega
                  dsimp only at hrr m16 ⊢
                  rw [hlK] at hrr ⊢
                  have HlK := Lib.hid hlK
                  clear hlK
                  have hKc : (K : Int) ≤ (c1 : Int) := by omega
                  go_wp2_with fail
                  refine (sameRecords_spec A2 (some ⟨b1, o1, none⟩) K K K c1 (rs.take K) (rs.take K) w16 w0 _ m16 (hrr.lift inferInstance) ((rG1.pre K (by omega)).lift inferInstance) (by omega) (by omega) (fun s hs => Hxs.out s (List.mem_of_mem_take hs)) (fun s hs => Hxs.out s (List.mem_of_mem_take hs))).mono ?_
                  rw [decide_eq_true rfl]
                  rintro e w17 ⟨rfl, m17⟩
                  go_wp2_with fail
                  go_ret
                  exact ⟨rfl, Mod.sub S (m := Mod.sub G (m := m17))⟩
theorem wf_u32 {k : Int} (h : (Lit.int .u32 k).wf = true) : ∃ n : Nat, k = n ∧ n < 4294967296 := by
  have h1 : IntKind.u32.min ≤ k ∧ k ≤ IntKind.u32.max := by simpa [Lit.wf] using h
  have e1 : IntKind.u32.min = 0 := by decide
  have e2 : IntKind.u32.max = 4294967295 := by decide
  rw [e1, e2] at h1
  exact ⟨k.toNat, by omega, by omega⟩
theorem journalsTurned_walk (B1 : Option Addr) (n c1 : Nat) (k k2 : Int) (w w0 : World) (S : Asn) [m : Mod w w0 S] (hk : (Lit.int .u8 k).wf = true) (hk2 : (Lit.int .u32 k2).wf = true)
    (hs : ∃ rs, ReadsRecs S B1 n rs ∧ n ≤ c1 ∧ n ≤ reachBytes ∧ ∀ s ∈ rs, s.length ≤ reachBytes) :
    Calls Tryd.prog 6 #[.slice B1 n c1, .int .u8 k, .int .u32 k2] w fun e w' => e = .returned (.bool true) ∧ Mod w' w0 S := by
  obtain ⟨which, rfl, hwhich⟩ := wf_u8 hk
  obtain ⟨bits, rfl, hbits⟩ := wf_u32 hk2
  obtain ⟨rs, hr, h1, h2, h3⟩ := hs
  unfold reachBytes at h2 h3
  exact journalsTurned_run B1 n c1 rs which bits w w0 S m hr h1 (by omega) (fun s hs => Nat.le_trans (h3 s hs) (by omega)) hwhich hbits
end Go.Proofs.YtmpgnnjhgjfgaaaDoor
