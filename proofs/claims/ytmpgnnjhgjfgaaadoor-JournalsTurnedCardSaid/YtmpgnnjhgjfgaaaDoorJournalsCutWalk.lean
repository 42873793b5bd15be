/- The walk of JournalsCut: it returns true and changes nothing that was there; no condition. -/
import Derived.Test.YtmpgnnjhgjfgaaaDoorAlive6
import Derived.Test.YtmpgnnjhgjfgaaaDoorArgRecs
import Derived.Deep.LoopGhost
namespace Go.Sl
theorem sum_sizes : ∀ l : List (List UInt8), (l.map List.length).sum = Go.Proofs.YtmpgnnjhgjfgaaaDoor.sizesR l
  | [] => rfl
  | r :: l => by rw [List.map_cons, List.sum_cons, sum_sizes l]; rfl
/-- where the records end -/
def endsOf (rs : List (List UInt8)) (k : Nat) : List Nat := (List.range k).map fun i => (journal [] (rs.take (i + 1))).length
theorem endsOf_succ (rs : List (List UInt8)) (k : Nat) : endsOf rs (k + 1) = endsOf rs k ++ [(journal [] (rs.take (k + 1))).length] := by simp [endsOf, List.range_succ]
theorem endsOf_at (rs : List (List UInt8)) (k i : Nat) (h : i < k) : (endsOf rs k)[i]? = some (journal [] (rs.take (i + 1))).length := by simp [endsOf, h]
/-- what a cut journal reads as -/
theorem readAll_upto (rs : List (List UInt8)) (c v : Nat) (h1 : (journal [] (rs.take v)).length ≤ c) (h2 : v < rs.length → c < (journal [] (rs.take (v + 1))).length) : readAll ((journal [] rs).take c) = (rs.take v, (journal [] (rs.take v)).length) := by
  rcases Nat.lt_or_ge v rs.length with h | h
  · exact readAll_take rs c v h h1 (h2 h)
  · have e : rs.take v = rs := List.take_of_length_le h
    rw [e] at h1 ⊢
    rw [List.take_of_length_le (by omega), readAll_journal]
end Go.Sl
namespace Go.Proofs.YtmpgnnjhgjfgaaaDoor
open Go.RowKit Go.Sl
attribute [local go_sem] cell_of frozen_of zero_names conv_const conv_bs conv_nil make_bytes
abbrev ncut : ByteArray := ⟨#[99, 117, 116]⟩
theorem ok_cut : nameOk ncut = true := by rw [nameOk_eq]; decide
theorem ne_jcut : nj ≠ ncut := by decide
instance rowT_ints : RowT Tryd.prog 42 3 8 := ⟨by kernel_rfl, by kernel_rfl⟩
abbrev ints (l : List Nat) : List Value := l.map fun x : Nat => Value.int .i64 (x : Int)
set_option maxRecDepth 4000 in
set_option maxHeartbeats 4000000 in
theorem journalsCut_run (B1 : Option Addr) (n c1 : Nat) (rs : List (List UInt8)) (cut : Nat) (w w0 : World) (S : Asn) (m : Mod w w0 S) (r1 : ReadsRecs S B1 n rs) (hc : n ≤ c1) (hn : n ≤ 4611686018427387903) (hxs : ∀ s ∈ rs, s.length ≤ 4611686018427387904) (hcut : cut < 65536) :
    Calls Tryd.prog 5 #[.slice B1 n c1, .int .u16 (cut : Int)] w fun e w' => e = .returned (.bool true) ∧ Mod w' w0 S := by
  have hl := r1.len
  obtain ⟨t1, t2⟩ := recsSize_gt rs n
  have HT := Lib.hid t2
  have Hxs := Lib.hid hxs
  have Hl := Lib.hid hl
  clear t2 hxs hl
  by_cases hlen : 30 < n
  · go_enter Tryd.func5, Tryd.ntmps5
    go_wp2_with first
      | (go_at_call 10; refine (alive6_spec _ w0 _ (by assumption)).mono ?_; rintro e w1 ⟨rfl, _m1⟩; try clear m)
    go_ret
    exact ⟨rfl, _m1⟩
  · have HC := Lib.hid (fun (u : World) (mu : Mod u w0 S) => recordsSize_spec B1 n c1 rs u w0 S mu r1 (by omega) Hxs.out)
    obtain ⟨sz, hsz⟩ : ∃ sz, recsSize n rs = sz := ⟨_, rfl⟩
    rw [hsz] at HC HT
    clear hsz
    by_cases h7 : 30000 < sz
    · go_enter Tryd.func5, Tryd.ntmps5
      go_wp2_with fail
      refine (alive6_spec _ w0 _ m).mono ?_
      rintro e w1 ⟨rfl, m1⟩
      go_wp2_with fail
      refine (HC.out w1 m1).mono ?_
      rintro e w2 ⟨rfl, m2⟩
      go_wp2_with fail
      refine (alive6_spec _ w0 _ m2).mono ?_
      rintro e w3 ⟨rfl, m3⟩
      go_wp2_with fail
      go_ret
      exact ⟨rfl, m3⟩
    · have Hsz := Lib.hid (HT.out (by omega))
      clear HT
      go_enter Tryd.func5, Tryd.ntmps5
      go_wp2_with fail
      refine (alive6_spec _ w0 _ m).mono ?_
      rintro e w1 ⟨rfl, m1⟩
      go_wp2_with fail
      refine (HC.out w1 m1).mono ?_
      rintro e w2 ⟨rfl, m2⟩
      go_wp2_with fail
      refine (opened6_spec w2 w0 S m2).mono ?_
      rintro e w3 ⟨p, j, g, rfl, m3⟩
      go_wp2_with fail
      obtain ⟨G, m4, rG1, sG⟩ : ∃ G, Mod w3 w0 (diskA p (jay g [] 0 []) * (jourA j p nj 0 * G)) ∧ ReadsRecs G B1 n rs ∧ Sub G S := ⟨S, m3, r1, inferInstance⟩
      have hJ : ∀ i, (journal [] (rs.take i)).length ≤ 61000 := fun i => by
        have := journal_le rs [] i
        rw [sum_sizes] at this
        have h1 := Hsz.out
        have h2 := Hl.out
        simp only [List.length_nil] at this
        omega
      have HJ := Lib.hid hJ
      clear hJ m m1 m2 m3 HC r1
      go_loopg [7, 8] n (fun gk ev iv wr => ∃ (k : Nat) (A : Option Addr) (ce : Nat), k ≤ n ∧ gk = n - k ∧ iv = .int .i64 (k : Int) ∧ ev = .slice A k ce ∧ Mod wr w0 (rowA 3 1 (.slice A k ce) k (ints (endsOf rs k)) * (diskA p (jay g (journal [] (rs.take k)) 0 []) * (jourA j p nj (journal [] (rs.take k)).length * G))))
      case atStart => exact ⟨0, none, 0, Nat.zero_le _, rfl, rfl, rfl, row_none m4⟩
      case round =>
        obtain ⟨k, Ae, ce, hkn, hgk, rfl, rfl, m5⟩ := hrel
        by_cases hlt : k < n
        · obtain ⟨b1, o1, hB1, hkl, B, cB, hxA, rB, hcB⟩ := reads_rec_all (Mod.sub G (m := m5)) rG1 hlt
          subst hB1
          have hki : (k : Int) < (n : Int) := by omega
          have hsz1 : rs[k].length ≤ 4611686018427387904 := Hxs.out _ (List.getElem_mem hkl)
          have htk : Hid (rs.take (k + 1) = rs.take k ++ [rs[k]]) := List.take_succ_eq_append_getElem hkl
          have HJ2 : Hid ((journal [] (rs.take k ++ [rs[k]])).length ≤ 1000000) := by rw [← htk.out]; exact Nat.le_trans (HJ.out _) (by omega)
          have HxA := Lib.hid hxA
          clear hxA
          generalize rs[k] = x at *
          clear hkl
          have hx : wr.cell? ⟨b1, o1 + k, none⟩ = _ := HxA.out ⟨wr, Mod.sub G (m := m5)⟩
          have m6 := Mod.to (m := m5) (S' := diskA p (jay g (journal [] (rs.take k)) 0 []) * (jourA j p nj (journal [] (rs.take k)).length * (rowA 3 1 (.slice Ae k ce) k (ints (endsOf rs k)) * G))) (by ac_rfl)
          clear m5
          by_cases hx6 : 65536 < x.length
          · go_wp2_with fail
            refine (add_limit j p _ nj _ w0 _ _ cB _ x.length m6 hx6).mono ?_
            rintro e w8 ⟨rfl, m8⟩
            have hx8 : w8.cell? ⟨b1, o1 + k, none⟩ = _ := HxA.out ⟨w8, Mod.sub G (m := m8)⟩
            have hx6i : (65536 : Int) < (x.length : Int) := by omega
            go_wp2_with fail
            go_ret
            exact ⟨rfl, Mod.sub S (m := Mod.sub G (m := m8))⟩
          · go_wp2_with fail
            refine (jay_addJ p g j (rs.take k) 0 [] _ w0 _ B cB x m6 (reads_lift inferInstance rB) hcB (by omega) HJ2.out).mono ?_
            rintro e w8 ⟨rfl, m8⟩
            rw [← htk.out] at m8
            clear m6
            go_wp2_with fail
            have HS := jay_size p g (journal [] (rs.take (k + 1))) 0 [] w8 w0 _ _ m8 inferInstance
            refine HS.mono ?_
            rintro e w9 ⟨rfl, m9⟩
            clear HS m8
            have hJk := HJ.out (k + 1)
            go_wp2_with (at_builtin; (refine wpList_append (v := .slice Ae k ce) (k := 1) (c := 1) (news := [.int .i64 ((journal [] (rs.take (k + 1))).length : Int)]) (r := reads_blk rfl rfl) rfl rfl inferInstance rfl rfl (by simp [Value.oneCell']) (by unfold maxLen; omega) (by omega) ?_); intro A' c' w10 m10)
            simp only [emp_sep] at m10
            rw [show ints (endsOf rs k) ++ [Value.int .i64 ((journal [] (rs.take (k + 1))).length : Int)] = ints (endsOf rs (k + 1)) by rw [endsOf_succ, ints, ints, List.map_append]; rfl] at m10
            go_roundg (n - (k + 1))
            case measure => omega
            case rel => exact ⟨k + 1, A', c', by omega, rfl, by go_num, rfl, drop_mid m10⟩
        · have hkn2 : k = n := by omega
          subst hkn2
          have htk : rs.take k = rs := List.take_of_length_le (by rw [Hl.out]; omega)
          have hj := HJ.out k
          rw [htk] at m5 hj
          have m6 := Mod.to (m := m5) (S' := diskA p (jay g (journal [] rs) 0 []) * (jourA j p nj (journal [] rs).length * (rowA 3 1 (.slice Ae k ce) k (ints (endsOf rs k)) * G))) (by ac_rfl)
          clear m5
          have Htk := Lib.hid htk
          clear htk
          go_wp2_with fail
          have HS := jay_size p g (journal [] rs) 0 [] wr w0 _ _ m6 inferInstance
          obtain ⟨N, hN⟩ : ∃ N, (journal [] rs).length = N := ⟨_, rfl⟩
          obtain ⟨b, hb⟩ : ∃ b, journal [] rs = b := ⟨_, rfl⟩
          rw [hN] at HS hj m6
          rw [hb] at HS m6
          refine HS.mono ?_
          rintro e w9 ⟨rfl, m9⟩
          clear HS m6
          obtain ⟨c, hcc⟩ : ∃ c : Nat, cut % (N + 1) = c := ⟨_, rfl⟩
          have hcN : c ≤ N := by rw [← hcc]; have := Nat.mod_lt cut (show 0 < N + 1 by omega); omega
          have hc2 : ((cut : Int) % ((N : Int) + 1)) = (c : Int) := by rw [← hcc]; simp
          clear hcc
          have HN : Hid (b.length = N) := by rw [← hb]; exact hN
          have Hb := Lib.hid hb
          clear hN hb
          go_wp2_with fail
          have HR := read_ok p (jay g b 0 []) nj w9 w0 _ _ m9 inferInstance size_j 0 c g ⟨b, 0⟩ ok_j (mget_one _ _) (fget_one _ _) (by show 0 + c ≤ b.length; rw [HN.out]; omega)
          refine HR.mono ?_
          rintro e w10 ⟨A1, cr, rfl, m10⟩
          rw [List.drop_zero] at m10
          rw [hc2]
          clear hc2 HR m9
          go_wp2_with fail
          refine (create_ok p (jay g b 0 []) ncut w10 w0 _ _ m10 inferInstance (by decide) ok_cut (mget_ne _ ne_jcut) (by simp [one])).mono ?_
          rintro e w11 ⟨h, rfl, hf, m11⟩
          have hgh := fresh_one hf
          clear hf m10
          rw [created_pair ne_jcut] at m11
          have hlc : (b.take c).length = c := by rw [List.length_take, HN.out]; omega
          have Hlc := Lib.hid hlc
          clear hlc
          obtain ⟨t, ht⟩ : ∃ t, b.take c = t := ⟨_, rfl⟩
          rw [ht] at Hlc
          have m12 : Mod w11 w0 (diskA p (pair 1000000 nj g ⟨b, 0⟩ ncut h ⟨[], 0⟩ []) * (rowA 5 1 (.slice A1 c cr) c (u8s t) * (jourA j p nj N * (rowA 3 1 (.slice Ae k ce) k (ints (endsOf rs k)) * G)))) := by rw [← ht]; simpa only [emp_sep] using m11
          have Ht := Lib.hid ht
          clear ht m11
          go_wp2_with fail
          have hA := append_len p (pair 1000000 nj g ⟨b, 0⟩ ncut h ⟨[], 0⟩ []) ncut w11 w0 _ _ m12 inferInstance (by decide) A1 c cr t Hlc.out h ⟨[], 0⟩ ok_cut (mget_pair2 ne_jcut) fget_pair2 (by rw [left_pair hgh]; simp only [HN.out, List.length_nil]; omega) (by simp only [List.length_nil]; omega)
          refine hA.mono ?_
          rintro e w13 ⟨rfl, m13⟩
          rw [put_pair2, List.nil_append] at m13
          clear m12 hA
          have m14 : Mod w13 w0 (diskA p (pair 1000000 nj g ⟨b, 0⟩ ncut h ⟨t, 0⟩ []) * (rowA 3 1 (.slice Ae k ce) k (ints (endsOf rs k)) * G)) := repack (diskA p) (fun q : Nat × List Value => rowA 3 1 (.slice Ae k ce) q.1 q.2) m13
          clear m13
          have Hends : Hid (∀ i, i < k → (ints (endsOf rs k))[i]? = some (.int .i64 ((journal [] (rs.take (i + 1))).length : Int))) := fun i hi => by
            rw [List.getElem?_map, endsOf_at rs k i hi]; rfl
          have rE : Reads (diskA p (pair 1000000 nj g ⟨b, 0⟩ ncut h ⟨t, 0⟩ []) * (rowA 3 1 (.slice Ae k ce) k (ints (endsOf rs k)) * G)) Ae k (ints (endsOf rs k)) := inferInstance
          go_wp2_with fail
          go_loopg [16] k (fun gk vv wr => ∃ (v : Nat), v ≤ k ∧ gk = k - v ∧ vv = .int .i64 (v : Int) ∧ Hid ((journal [] (rs.take v)).length ≤ c) ∧ Mod wr w0 (diskA p (pair 1000000 nj g ⟨b, 0⟩ ncut h ⟨t, 0⟩ []) * (rowA 3 1 (.slice Ae k ce) k (ints (endsOf rs k)) * G)))
          case atStart => exact ⟨0, Nat.zero_le _, rfl, rfl, Nat.zero_le _, m14⟩
          case round =>
            obtain ⟨v, hvk, hgk2, rfl, Hv, m15⟩ := hrel
            by_cases hv2 : v < k
            · have hvi2 : (v : Int) < (k : Int) := by omega
              obtain ⟨ad, hA, hsp, hcl⟩ := reads_cell m15 (inferInstance : Reads _ Ae k (ints (endsOf rs k))) (by omega)
              obtain ⟨be, oe, spe⟩ := ad
              simp only at hsp
              subst hsp hA
              have hx := hcl v _ (Hends.out v hv2)
              clear hcl
              obtain ⟨E, hE⟩ : ∃ E, (journal [] (rs.take (v + 1))).length = E := ⟨_, rfl⟩
              rw [hE] at hx
              by_cases hEc : E ≤ c
              · have hEi : (E : Int) ≤ (c : Int) := by omega
                have HE := Lib.hid hE
                clear hE
                go_wp2_with fail
                go_roundg (k - (v + 1))
                case measure => omega
                case rel => exact ⟨v + 1, by omega, rfl, by go_num, by show _ ≤ _; rw [HE.out]; exact hEc, m15⟩
              · have hEi : ¬ ((E : Int) ≤ (c : Int)) := by omega
                have HE := Lib.hid hE
                clear hE
                go_wp2_with fail
                have HV : Hid (readAll t = (rs.take v, (journal [] (rs.take v)).length)) := by
                  show _ = _
                  rw [← Ht.out, ← Hb.out]
                  exact readAll_upto rs c v Hv.out (fun _ => by rw [HE.out]; omega)
                have hO := jopen_there p (pair 1000000 nj g ⟨b, 0⟩ ncut h ⟨t, 0⟩ []) ncut wr w0 _ m15 (by decide) h ⟨t, 0⟩ ok_cut (mget_pair2 ne_jcut) fget_pair2 (by simp only [Hlc.out]; omega)
                simp only [HV.out] at hO
                refine hO.mono ?_
                rintro e w16 ⟨k2, A2, R, rfl, hrr, m16⟩
                clear hO m15
                have hlv : (rs.take v).length = v := by rw [List.length_take, Hl.out]; omega
                dsimp only at hrr m16 ⊢
                rw [hlv] at hrr ⊢
                have Hlv := Lib.hid hlv
                clear hlv
                have hvi : (v : Int) ≤ (c1 : Int) := by omega
                go_wp2_with fail
                refine (sameRecords_spec A2 B1 v v v c1 (rs.take v) (rs.take v) w16 w0 _ m16 (hrr.lift inferInstance) ((rG1.pre v hvk).lift inferInstance) (by omega) (by omega) (fun s hs => Hxs.out s (List.mem_of_mem_take hs)) (fun s hs => Hxs.out s (List.mem_of_mem_take hs))).mono ?_
                rw [decide_eq_true rfl]
                rintro e w17 ⟨rfl, m17⟩
                go_wp2_with fail
                go_ret
                exact ⟨rfl, Mod.sub S (m := Mod.sub G (m := m17))⟩
            · have hvi2 : ¬ ((v : Int) < (k : Int)) := by omega
              go_wp2_with fail
              have HV : Hid (readAll t = (rs.take v, (journal [] (rs.take v)).length)) := by
                show _ = _
                rw [← Ht.out, ← Hb.out]
                exact readAll_upto rs c v Hv.out (fun hh => absurd hh (by have := Hl.out; omega))
              have hO := jopen_there p (pair 1000000 nj g ⟨b, 0⟩ ncut h ⟨t, 0⟩ []) ncut wr w0 _ m15 (by decide) h ⟨t, 0⟩ ok_cut (mget_pair2 ne_jcut) fget_pair2 (by simp only [Hlc.out]; omega)
              simp only [HV.out] at hO
              refine hO.mono ?_
              rintro e w16 ⟨k2, A2, R, rfl, hrr, m16⟩
              clear hO m15
              have hlv : (rs.take v).length = v := by rw [List.length_take, Hl.out]; omega
              dsimp only at hrr m16 ⊢
              rw [hlv] at hrr ⊢
              have Hlv := Lib.hid hlv
              clear hlv
              have hvi : (v : Int) ≤ (c1 : Int) := by omega
              go_wp2_with fail
              refine (sameRecords_spec A2 B1 v v v c1 (rs.take v) (rs.take v) w16 w0 _ m16 (hrr.lift inferInstance) ((rG1.pre v hvk).lift inferInstance) (by omega) (by omega) (fun s hs => Hxs.out s (List.mem_of_mem_take hs)) (fun s hs => Hxs.out s (List.mem_of_mem_take hs))).mono ?_
              rw [decide_eq_true rfl]
              rintro e w17 ⟨rfl, m17⟩
              go_wp2_with fail
              go_ret
              exact ⟨rfl, Mod.sub S (m := Mod.sub G (m := m17))⟩
theorem journalsCut_walk (B1 : Option Addr) (n c1 : Nat) (k : Int) (w w0 : World) (S : Asn) [m : Mod w w0 S] (hk : (Lit.int .u16 k).wf = true)
    (hs : ∃ rs, ReadsRecs S B1 n rs ∧ n ≤ c1 ∧ n ≤ reachBytes ∧ ∀ s ∈ rs, s.length ≤ reachBytes) :
    Calls Tryd.prog 5 #[.slice B1 n c1, .int .u16 k] w fun e w' => e = .returned (.bool true) ∧ Mod w' w0 S := by
  obtain ⟨cut, rfl, hcut⟩ := wf_u16 hk
  obtain ⟨rs, hr, h1, h2, h3⟩ := hs
  unfold reachBytes at h2 h3
  exact journalsCut_run B1 n c1 rs cut w w0 S m hr h1 (by omega) (fun s hs => Nat.le_trans (h3 s hs) (by omega)) hcut
end Go.Proofs.YtmpgnnjhgjfgaaaDoor
