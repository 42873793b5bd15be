/- The walk of journals' iterator over a record's parts: what it hands over; the conditions are in each theorem. -/
import Derived.Test.YtmpgnnjhgjfgaaaDoorPartsPlain
import Derived.Test.YtmpgnnjhgjfgaaaDoorQuietTail
namespace Go.Proofs.YtmpgnnjhgjfgaaaDoor
open Go.RowKit Go.Sl Go.Shelf
attribute [local go_sem] cell_of frozen_of zero_names eql_nil_bytes Oper.semAt_some
theorem parts_spec (p : Nat) (B : Option Addr) (n c : Nat) (w w0 : World) (S : Asn) (m : Mod w w0 S) :
    Calls Tryd.prog 51 #[.int .i64 (p : Int), .slice B n c] w fun e w' => ∃ pa pr, e = .returned (.func (.func 61) #[] #[ptr pr, ptr pa]) ∧ Mod w' w0 (blk pr (.cells #[.slice B n c] 35 (0, 0)) * (blk pa (.cells #[.int .i64 (p : Int)] 3 (0, 0)) * S)) := by
  go_enter Tryd.func51, Tryd.ntmps51
  go_wp2
  go_ret
  exact ⟨_, _, rfl, inferInstance⟩
def kindCells (begun : Bool) : Array Value := #[.int .u8 ((kindOf (!begun) false).toNat : Int), .int .u8 ((kindOf (!begun) true).toNat : Int)]
theorem gap_int (N : Int) (p : Nat) (hN : N = p) (w w0 : World) (S : Asn) (m : Mod w w0 S) (hp : p ≤ 9223372036854775807) : Calls Tryd.prog 47 #[.int .i64 N] w fun e w' => e = .returned (.int .i64 (gapOf p : Int)) ∧ Mod w' w0 S := by
  subst hN; exact gap_spec p w w0 S m hp
theorem reads_cut {G : Asn} {B : Option Addr} {n c : Nat} {l : List UInt8} (h : Reads G B n (u8s l)) {k : Nat} (hk : k ≤ n) (hc : n ≤ c) : Reads G (if c = k then B else B.map (fun x => x.add k)) (n - k) (u8s (l.drop k)) := by
  by_cases e : c = k
  · rw [if_pos e]
    have hn : n - k = 0 := by omega
    rw [hn]
    refine ⟨fun x hx => ?_, fun x hx h0 => by omega⟩
    have := h.len x hx
    rw [length_u8s] at this ⊢
    rw [List.length_drop]; omega
  · rw [if_neg e]
    have := h.part k (n - k) (by omega)
    have e2 : ((u8s l).drop k).take (n - k) = u8s (l.drop k) → Reads G (B.map (fun x => x.add k)) (n - k) (u8s (l.drop k)) := fun e => e ▸ this
    refine ⟨fun x hx => ?_, fun x hx h0 => ?_⟩
    · have := h.len x hx
      rw [length_u8s] at this ⊢
      rw [List.length_drop]; omega
    · have hl := h.len x hx
      rw [length_u8s] at hl
      refine (e2 ?_).cell x hx h0
      rw [List.take_of_length_le (by rw [List.length_drop, length_u8s]; omega)]
      simp [u8s]
set_option maxHeartbeats 2000000 in
theorem partsF_seq (G : Asn) (pa pr p n c : Nat) (B : Option Addr) (rec : List UInt8) (r : Reads G B n (u8s rec)) (hn : rec.length = n) (hc : n ≤ c) (hb : p + 15 * n + 14 ≤ 4611686018427387904) (w0 : World) :
    SeqSl Tryd.prog w0 61 #[ptr pr, ptr pa] Pt.vals (fun _ => True) (blk pr (.cells #[.slice B n c] 35 (0, 0)) * blk pa (.cells #[.int .i64 (p : Int)] 3 (0, 0))) (fun _ => emp) (fun xs => emits xs = writ p true rec) (fun _ => True) (Next G p rec) := by
  intro l J Jx W _ hR m
  show Calls Tryd.prog 61 #[.func (.yield l) #[] #[], ptr pr, ptr pa] W _
  go_enter Tryd.func61, Tryd.ntmps61
  go_wp2
  go_loopg [5] (n + 1) (fun gk b wr => ∃ (pre : List Pt) (q : Nat) (begun : Bool) (Br : Option Addr) (nr cr : Nat) (rest : List UInt8), gk = nr + (if begun then 0 else 1) ∧ b = .bool begun ∧ nr ≤ cr ∧ rest.length = nr ∧ Reads G Br nr (u8s rest) ∧ Hid (q = p + (emits pre).length) ∧ Hid (writ p true rec = emits pre ++ toCome q begun rest) ∧
    Mod wr w0 (J pre * (blk pr (.cells #[.slice Br nr cr] 35 (0, 0)) * (blk pa (.cells #[.int .i64 (q : Int)] 3 (0, 0)) * blk W.heap.size (.cells (kindCells begun) 113 (0, 0))))))
  case atStart =>
    refine ⟨[], p, false, B, n, c, rec, rfl, rfl, hc, hn, r, rfl, rfl, ?_⟩
    exact Mod.to (m := (inferInstance : Mod _ w0 (blk W.heap.size (.cells (kindCells false) 113 (0, 0)) * (J [] * (blk pr (.cells #[.slice B n c] 35 (0, 0)) * blk pa (.cells #[.int .i64 (p : Int)] 3 (0, 0))))))) (by ac_rfl)
  case round =>
    obtain ⟨pre, q, begun, Br, nr, cr, rest, hgk, rfl, hcr, hrl, hr, Hq, Ht, m2⟩ := hrel
    by_cases hgo : begun = false ∨ 0 < nr
    · have hte := congrArg List.length Ht.out
      rw [toCome_step q begun rest (by rw [hrl]; exact hgo)] at hte
      have hwl := writ_length_le p rec
      simp only [List.length_append, zeros, List.length_replicate, partB_length] at hte
      rw [length_take_fits] at hte
      have hq0 := Hq.out
      have hqb : q + gapOf q + 7 + fits q rest ≤ 4611686018427387904 := by omega
      have hrp := room_pos q
      have hgl := gapOf_le q
      clear hte hwl hq0
      have hkc : ∃ a b : UInt8, kindCells begun = #[.int .u8 (a.toNat : Int), .int .u8 (b.toNat : Int)] ∧ Hid (a = kindOf (!begun) false) ∧ Hid (b = kindOf (!begun) true) := ⟨_, _, rfl, rfl, rfl⟩
      obtain ⟨a, b, hk, Ha, Hb⟩ := hkc
      rw [hk] at m2
      clear hk
      have Hgk := Lib.hid hgk
      clear hgk
      have Hrl := Lib.hid hrl
      clear hrl
      obtain ⟨k, Hk⟩ : ∃ k, Hid (k = fits q rest) := ⟨_, rfl⟩
      rw [← Hk.out] at hqb
      have hmin : min (nr : Int) (128 - ((q : Int) + (gapOf q : Int)) % 128 - 7) = (k : Int) := by rw [Hk.out]; unfold fits; rw [Hrl.out]; omega
      have hkn : k ≤ nr := by rw [Hk.out, ← Hrl.out]; exact fits_le q rest
      have HN : Hid (∀ kd, kd = kindOf (!begun) (decide (k = nr)) → Next G p rec pre ⟨kd, Br, k, cr, rest.take k, gapOf q⟩) := fun kd hkd => by
        have hst := toCome_step q begun rest (by rw [Hrl.out]; exact hgo)
        rw [← Hk.out, Hrl.out, ← hkd] at hst
        refine ⟨by have := hr.pre k hkn; rwa [show (u8s rest).take k = u8s (rest.take k) from by simp [u8s]] at this, by show (rest.take k).length = k; rw [List.length_take, Hrl.out]; omega, by show k ≤ cr; omega, by show gapOf q = gapOf (p + (emits pre).length); rw [← Hq.out], by show k ≤ 121; rw [Hk.out]; exact fits_room q rest, toCome (q + gapOf q + 7 + k) true (rest.drop k), ?_⟩
        rw [Ht.out, hst]; simp only [Pt.out, List.append_assoc]
      by_cases hw : k = nr
      · have HKD : Hid (b = kindOf (!begun) (decide (k = nr))) := by show _ = _; rw [decide_eq_true hw]; exact Hb.out
        have hwb : ((k : Int) == (nr : Int)) = true := by rw [beq_iff_eq]; omega
        clear hw
        cases begun
        · go_wp2_with fail
          obtain ⟨SS, hSS, mSS⟩ : ∃ SS, SS = _ ∧ Mod wr w0 SS := ⟨_, rfl, m2⟩
          have hpa : Has SS pa (.cells #[.int .i64 (q : Int)] 3 (0, 0)) := by rw [hSS]; infer_instance
          have HC : Hid (∀ u, Mod u w0 SS → Calls Tryd.prog 47 #[.int .i64 (q : Int)] u fun e w' => e = .returned (.int .i64 (gapOf q : Int)) ∧ Mod w' w0 SS) := fun u mu => gap_spec q u w0 SS mu (by omega)
          have HSS := Lib.hid hSS
          clear hSS
          have := Held.some mSS
          refine wp_region_mod_tail 4 mSS (by kernel_rfl) (by kernel_rfl) ?_
          simp only [List.take_succ_cons, List.take_zero, List.drop_succ_cons, List.drop_zero]
          repeat (go_big_quiet_step ((go_at_call 47; refine quiet_call (HC.out _ ?_); exact inferInstance)))
          refine wpQuiet_nil ?_
          rintro w3 ⟨s, rfl⟩
          have m3 := s.mod
          clear HC mSS hpa m2
          generalize s.world = w3 at *
          rw [HSS.out] at m3
          clear HSS this s
          go_upto_region 9 with (fail)
          have m4 : Mod (w3.setCell ⟨pa, 0, none⟩ (.int .i64 ((q : Int) + (gapOf q : Int)))) w0 (J pre * (blk pr (.cells #[.slice Br nr cr] 35 (0, 0)) * (blk pa (.cells #[.int .i64 ((q : Int) + (gapOf q : Int))] 3 (0, 0)) * blk W.heap.size (.cells #[.int .u8 (a.toNat : Int), .int .u8 (b.toNat : Int)] 113 (0, 0))))) :=
            Mod.to (m := (inferInstance : Mod (w3.setCell ⟨pa, 0, none⟩ (.int .i64 ((q : Int) + (gapOf q : Int)))) w0 (blk pa (.cells #[.int .i64 ((q : Int) + (gapOf q : Int))] 3 (0, 0)) * (J pre * (blk pr (.cells #[.slice Br nr cr] 35 (0, 0)) * (emp * blk W.heap.size (.cells #[.int .u8 (a.toNat : Int), .int .u8 (b.toNat : Int)] 113 (0, 0)))))))) (by rw [emp_sep]; ac_rfl)
          clear m3
          generalize w3.setCell ⟨pa, 0, none⟩ (.int .i64 ((q : Int) + (gapOf q : Int))) = W1 at *
          obtain ⟨fn, tmps, assign, body, hy, hRd⟩ := hR pre ⟨b, Br, k, cr, rest.take k, gapOf q⟩ _ W1 (HN.out b HKD.out) m4
          have hy : (Instr.yield l #[.int .u8 (b.toNat : Int), .slice Br k cr]).run Tryd.prog W1 = .ok (.round l fn tmps assign body) W1 := hy
          refine (wpIn_wide (n := 6)).1 ?_
          gi_wp2
          refine hRd.mono ?_
          rintro e W3 (⟨rfl, m5⟩ | ⟨rfl, m5⟩)
          · gi_wp2
            clear hRd hy hR HN m4
            go_wp2_with fail
            have hr2 := reads_cut hr hkn hcr
            go_region
            generalize (if cr = k then Br else Br.map (fun x => x.add k)) = B2 at *
            go_wp2_with fail
            have m6 : Mod (((((W3.setCell ⟨pa, 0, none⟩ (.int .i64 ((q : Int) + (gapOf q : Int) + 7 + (k : Int)))).setCell ⟨pr, 0, none⟩ (.slice B2 (nr - k) (cr - k))).setCell ⟨W.heap.size, 0, none⟩ (.int .u8 3)).setCell ⟨W.heap.size, 1, none⟩ (.int .u8 4)).drew) w0 _ := inferInstance
            go_roundg (nr - k)
            case measure => rw [Hgk.out]; simp; omega
            case rel =>
              refine ⟨pre ++ [⟨b, Br, k, cr, rest.take k, gapOf q⟩], q + gapOf q + 7 + k, true, _, nr - k, cr - k, rest.drop k, rfl, rfl, by omega, by rw [List.length_drop, Hrl.out], hr2, ?_, ?_, Mod.to (m := m6) ?_⟩
              · show _ = _
                rw [emits_snoc, List.length_append, ← Nat.add_assoc, ← Hq.out]
                simp only [Pt.out, List.length_append, zeros, List.length_replicate, partB_length, List.length_take, Hrl.out]
                omega
              · show _ = _
                rw [Ht.out, toCome_step q _ rest (by rw [Hrl.out]; exact .inl rfl), ← Hk.out, Hrl.out, ← HKD.out, emits_snoc]
                simp only [Pt.out, List.append_assoc]
              · rw [show ((q + gapOf q + 7 + k : Nat) : Int) = (q : Int) + (gapOf q : Int) + 7 + (k : Int) from by omega]
                simp only [emp_sep, sep_emp]
                ac_rfl
          · gi_wp2
            go_wp2
            refine bodyPost_ret (results_none rfl _ _ _) rfl ?_
            exact ⟨⟨_, rfl⟩, .inr ⟨_, trivial, Mod.to (m := Mod.dropR (m := m5)) (sep_emp _).symm⟩⟩
        · have h0 : 0 < nr := by simpa using hgo
          go_wp2_with fail
          obtain ⟨SS, hSS, mSS⟩ : ∃ SS, SS = _ ∧ Mod wr w0 SS := ⟨_, rfl, m2⟩
          have hpa : Has SS pa (.cells #[.int .i64 (q : Int)] 3 (0, 0)) := by rw [hSS]; infer_instance
          have HC : Hid (∀ u, Mod u w0 SS → Calls Tryd.prog 47 #[.int .i64 (q : Int)] u fun e w' => e = .returned (.int .i64 (gapOf q : Int)) ∧ Mod w' w0 SS) := fun u mu => gap_spec q u w0 SS mu (by omega)
          have HSS := Lib.hid hSS
          clear hSS
          have := Held.some mSS
          refine wp_region_mod_tail 4 mSS (by kernel_rfl) (by kernel_rfl) ?_
          simp only [List.take_succ_cons, List.take_zero, List.drop_succ_cons, List.drop_zero]
          repeat (go_big_quiet_step ((go_at_call 47; refine quiet_call (HC.out _ ?_); exact inferInstance)))
          refine wpQuiet_nil ?_
          rintro w3 ⟨s, rfl⟩
          have m3 := s.mod
          clear HC mSS hpa m2
          generalize s.world = w3 at *
          rw [HSS.out] at m3
          clear HSS this s
          go_upto_region 9 with (fail)
          have m4 : Mod (w3.setCell ⟨pa, 0, none⟩ (.int .i64 ((q : Int) + (gapOf q : Int)))) w0 (J pre * (blk pr (.cells #[.slice Br nr cr] 35 (0, 0)) * (blk pa (.cells #[.int .i64 ((q : Int) + (gapOf q : Int))] 3 (0, 0)) * blk W.heap.size (.cells #[.int .u8 (a.toNat : Int), .int .u8 (b.toNat : Int)] 113 (0, 0))))) :=
            Mod.to (m := (inferInstance : Mod (w3.setCell ⟨pa, 0, none⟩ (.int .i64 ((q : Int) + (gapOf q : Int)))) w0 (blk pa (.cells #[.int .i64 ((q : Int) + (gapOf q : Int))] 3 (0, 0)) * (J pre * (blk pr (.cells #[.slice Br nr cr] 35 (0, 0)) * (emp * blk W.heap.size (.cells #[.int .u8 (a.toNat : Int), .int .u8 (b.toNat : Int)] 113 (0, 0)))))))) (by rw [emp_sep]; ac_rfl)
          clear m3
          generalize w3.setCell ⟨pa, 0, none⟩ (.int .i64 ((q : Int) + (gapOf q : Int))) = W1 at *
          obtain ⟨fn, tmps, assign, body, hy, hRd⟩ := hR pre ⟨b, Br, k, cr, rest.take k, gapOf q⟩ _ W1 (HN.out b HKD.out) m4
          have hy : (Instr.yield l #[.int .u8 (b.toNat : Int), .slice Br k cr]).run Tryd.prog W1 = .ok (.round l fn tmps assign body) W1 := hy
          refine (wpIn_wide (n := 6)).1 ?_
          gi_wp2
          refine hRd.mono ?_
          rintro e W3 (⟨rfl, m5⟩ | ⟨rfl, m5⟩)
          · gi_wp2
            clear hRd hy hR HN m4
            go_wp2_with fail
            have hr2 := reads_cut hr hkn hcr
            go_region
            generalize (if cr = k then Br else Br.map (fun x => x.add k)) = B2 at *
            go_wp2_with fail
            have m6 : Mod (((((W3.setCell ⟨pa, 0, none⟩ (.int .i64 ((q : Int) + (gapOf q : Int) + 7 + (k : Int)))).setCell ⟨pr, 0, none⟩ (.slice B2 (nr - k) (cr - k))).setCell ⟨W.heap.size, 0, none⟩ (.int .u8 3)).setCell ⟨W.heap.size, 1, none⟩ (.int .u8 4)).drew) w0 _ := inferInstance
            go_roundg (nr - k)
            case measure => rw [Hgk.out]; simp only [if_true]; have := fits_pos q rest (by rw [Hrl.out]; omega); rw [← Hk.out] at this; omega
            case rel =>
              refine ⟨pre ++ [⟨b, Br, k, cr, rest.take k, gapOf q⟩], q + gapOf q + 7 + k, true, _, nr - k, cr - k, rest.drop k, rfl, rfl, by omega, by rw [List.length_drop, Hrl.out], hr2, ?_, ?_, Mod.to (m := m6) ?_⟩
              · show _ = _
                rw [emits_snoc, List.length_append, ← Nat.add_assoc, ← Hq.out]
                simp only [Pt.out, List.length_append, zeros, List.length_replicate, partB_length, List.length_take, Hrl.out]
                omega
              · show _ = _
                rw [Ht.out, toCome_step q _ rest (by rw [Hrl.out]; exact .inr h0), ← Hk.out, Hrl.out, ← HKD.out, emits_snoc]
                simp only [Pt.out, List.append_assoc]
              · rw [show ((q + gapOf q + 7 + k : Nat) : Int) = (q : Int) + (gapOf q : Int) + 7 + (k : Int) from by omega]
                simp only [emp_sep, sep_emp]
                ac_rfl
          · gi_wp2
            go_wp2
            refine bodyPost_ret (results_none rfl _ _ _) rfl ?_
            exact ⟨⟨_, rfl⟩, .inr ⟨_, trivial, Mod.to (m := Mod.dropR (m := m5)) (sep_emp _).symm⟩⟩
      · have HKD : Hid (a = kindOf (!begun) (decide (k = nr))) := by show _ = _; rw [decide_eq_false hw]; exact Ha.out
        have hwb : ((k : Int) == (nr : Int)) = false := beq_eq_false_iff_ne.2 (by omega)
        cases begun
        · go_wp2_with fail
          obtain ⟨SS, hSS, mSS⟩ : ∃ SS, SS = _ ∧ Mod wr w0 SS := ⟨_, rfl, m2⟩
          have hpa : Has SS pa (.cells #[.int .i64 (q : Int)] 3 (0, 0)) := by rw [hSS]; infer_instance
          have HC : Hid (∀ u, Mod u w0 SS → Calls Tryd.prog 47 #[.int .i64 (q : Int)] u fun e w' => e = .returned (.int .i64 (gapOf q : Int)) ∧ Mod w' w0 SS) := fun u mu => gap_spec q u w0 SS mu (by omega)
          have HSS := Lib.hid hSS
          clear hSS
          have := Held.some mSS
          refine wp_region_mod_tail 4 mSS (by kernel_rfl) (by kernel_rfl) ?_
          simp only [List.take_succ_cons, List.take_zero, List.drop_succ_cons, List.drop_zero]
          repeat (go_big_quiet_step ((go_at_call 47; refine quiet_call (HC.out _ ?_); exact inferInstance)))
          refine wpQuiet_nil ?_
          rintro w3 ⟨s, rfl⟩
          have m3 := s.mod
          clear HC mSS hpa m2
          generalize s.world = w3 at *
          rw [HSS.out] at m3
          clear HSS this s
          go_upto_region 9 with (fail)
          have m4 : Mod (w3.setCell ⟨pa, 0, none⟩ (.int .i64 ((q : Int) + (gapOf q : Int)))) w0 (J pre * (blk pr (.cells #[.slice Br nr cr] 35 (0, 0)) * (blk pa (.cells #[.int .i64 ((q : Int) + (gapOf q : Int))] 3 (0, 0)) * blk W.heap.size (.cells #[.int .u8 (a.toNat : Int), .int .u8 (b.toNat : Int)] 113 (0, 0))))) :=
            Mod.to (m := (inferInstance : Mod (w3.setCell ⟨pa, 0, none⟩ (.int .i64 ((q : Int) + (gapOf q : Int)))) w0 (blk pa (.cells #[.int .i64 ((q : Int) + (gapOf q : Int))] 3 (0, 0)) * (J pre * (blk pr (.cells #[.slice Br nr cr] 35 (0, 0)) * (emp * blk W.heap.size (.cells #[.int .u8 (a.toNat : Int), .int .u8 (b.toNat : Int)] 113 (0, 0)))))))) (by rw [emp_sep]; ac_rfl)
          clear m3
          generalize w3.setCell ⟨pa, 0, none⟩ (.int .i64 ((q : Int) + (gapOf q : Int))) = W1 at *
          obtain ⟨fn, tmps, assign, body, hy, hRd⟩ := hR pre ⟨a, Br, k, cr, rest.take k, gapOf q⟩ _ W1 (HN.out a HKD.out) m4
          have hy : (Instr.yield l #[.int .u8 (a.toNat : Int), .slice Br k cr]).run Tryd.prog W1 = .ok (.round l fn tmps assign body) W1 := hy
          refine (wpIn_wide (n := 6)).1 ?_
          gi_wp2
          refine hRd.mono ?_
          rintro e W3 (⟨rfl, m5⟩ | ⟨rfl, m5⟩)
          · gi_wp2
            clear hRd hy hR HN m4
            go_wp2_with fail
            have hr2 := reads_cut hr hkn hcr
            go_region
            generalize (if cr = k then Br else Br.map (fun x => x.add k)) = B2 at *
            go_wp2_with fail
            have m6 : Mod (((((W3.setCell ⟨pa, 0, none⟩ (.int .i64 ((q : Int) + (gapOf q : Int) + 7 + (k : Int)))).setCell ⟨pr, 0, none⟩ (.slice B2 (nr - k) (cr - k))).setCell ⟨W.heap.size, 0, none⟩ (.int .u8 3)).setCell ⟨W.heap.size, 1, none⟩ (.int .u8 4)).drew) w0 _ := inferInstance
            go_roundg (nr - k)
            case measure => rw [Hgk.out]; simp; omega
            case rel =>
              refine ⟨pre ++ [⟨a, Br, k, cr, rest.take k, gapOf q⟩], q + gapOf q + 7 + k, true, _, nr - k, cr - k, rest.drop k, rfl, rfl, by omega, by rw [List.length_drop, Hrl.out], hr2, ?_, ?_, Mod.to (m := m6) ?_⟩
              · show _ = _
                rw [emits_snoc, List.length_append, ← Nat.add_assoc, ← Hq.out]
                simp only [Pt.out, List.length_append, zeros, List.length_replicate, partB_length, List.length_take, Hrl.out]
                omega
              · show _ = _
                rw [Ht.out, toCome_step q _ rest (by rw [Hrl.out]; exact .inl rfl), ← Hk.out, Hrl.out, ← HKD.out, emits_snoc]
                simp only [Pt.out, List.append_assoc]
              · rw [show ((q + gapOf q + 7 + k : Nat) : Int) = (q : Int) + (gapOf q : Int) + 7 + (k : Int) from by omega]
                simp only [emp_sep, sep_emp]
                ac_rfl
          · gi_wp2
            go_wp2
            refine bodyPost_ret (results_none rfl _ _ _) rfl ?_
            exact ⟨⟨_, rfl⟩, .inr ⟨_, trivial, Mod.to (m := Mod.dropR (m := m5)) (sep_emp _).symm⟩⟩
        · have h0 : 0 < nr := by simpa using hgo
          go_wp2_with fail
          obtain ⟨SS, hSS, mSS⟩ : ∃ SS, SS = _ ∧ Mod wr w0 SS := ⟨_, rfl, m2⟩
          have hpa : Has SS pa (.cells #[.int .i64 (q : Int)] 3 (0, 0)) := by rw [hSS]; infer_instance
          have HC : Hid (∀ u, Mod u w0 SS → Calls Tryd.prog 47 #[.int .i64 (q : Int)] u fun e w' => e = .returned (.int .i64 (gapOf q : Int)) ∧ Mod w' w0 SS) := fun u mu => gap_spec q u w0 SS mu (by omega)
          have HSS := Lib.hid hSS
          clear hSS
          have := Held.some mSS
          refine wp_region_mod_tail 4 mSS (by kernel_rfl) (by kernel_rfl) ?_
          simp only [List.take_succ_cons, List.take_zero, List.drop_succ_cons, List.drop_zero]
          repeat (go_big_quiet_step ((go_at_call 47; refine quiet_call (HC.out _ ?_); exact inferInstance)))
          refine wpQuiet_nil ?_
          rintro w3 ⟨s, rfl⟩
          have m3 := s.mod
          clear HC mSS hpa m2
          generalize s.world = w3 at *
          rw [HSS.out] at m3
          clear HSS this s
          go_upto_region 9 with (fail)
          have m4 : Mod (w3.setCell ⟨pa, 0, none⟩ (.int .i64 ((q : Int) + (gapOf q : Int)))) w0 (J pre * (blk pr (.cells #[.slice Br nr cr] 35 (0, 0)) * (blk pa (.cells #[.int .i64 ((q : Int) + (gapOf q : Int))] 3 (0, 0)) * blk W.heap.size (.cells #[.int .u8 (a.toNat : Int), .int .u8 (b.toNat : Int)] 113 (0, 0))))) :=
            Mod.to (m := (inferInstance : Mod (w3.setCell ⟨pa, 0, none⟩ (.int .i64 ((q : Int) + (gapOf q : Int)))) w0 (blk pa (.cells #[.int .i64 ((q : Int) + (gapOf q : Int))] 3 (0, 0)) * (J pre * (blk pr (.cells #[.slice Br nr cr] 35 (0, 0)) * (emp * blk W.heap.size (.cells #[.int .u8 (a.toNat : Int), .int .u8 (b.toNat : Int)] 113 (0, 0)))))))) (by rw [emp_sep]; ac_rfl)
          clear m3
          generalize w3.setCell ⟨pa, 0, none⟩ (.int .i64 ((q : Int) + (gapOf q : Int))) = W1 at *
          obtain ⟨fn, tmps, assign, body, hy, hRd⟩ := hR pre ⟨a, Br, k, cr, rest.take k, gapOf q⟩ _ W1 (HN.out a HKD.out) m4
          have hy : (Instr.yield l #[.int .u8 (a.toNat : Int), .slice Br k cr]).run Tryd.prog W1 = .ok (.round l fn tmps assign body) W1 := hy
          refine (wpIn_wide (n := 6)).1 ?_
          gi_wp2
          refine hRd.mono ?_
          rintro e W3 (⟨rfl, m5⟩ | ⟨rfl, m5⟩)
          · gi_wp2
            clear hRd hy hR HN m4
            go_wp2_with fail
            have hr2 := reads_cut hr hkn hcr
            go_region
            have hck : ¬ cr = k := by omega
            rw [if_neg hck] at hr2
            generalize Br.map (fun x => x.add k) = B2 at *
            clear hck
            go_wp2_with fail
            have m6 : Mod (((((W3.setCell ⟨pa, 0, none⟩ (.int .i64 ((q : Int) + (gapOf q : Int) + 7 + (k : Int)))).setCell ⟨pr, 0, none⟩ (.slice B2 (nr - k) (cr - k))).setCell ⟨W.heap.size, 0, none⟩ (.int .u8 3)).setCell ⟨W.heap.size, 1, none⟩ (.int .u8 4)).drew) w0 _ := inferInstance
            go_roundg (nr - k)
            case measure => rw [Hgk.out]; simp only [if_true]; have := fits_pos q rest (by rw [Hrl.out]; omega); rw [← Hk.out] at this; omega
            case rel =>
              refine ⟨pre ++ [⟨a, Br, k, cr, rest.take k, gapOf q⟩], q + gapOf q + 7 + k, true, _, nr - k, cr - k, rest.drop k, rfl, rfl, by omega, by rw [List.length_drop, Hrl.out], hr2, ?_, ?_, Mod.to (m := m6) ?_⟩
              · show _ = _
                rw [emits_snoc, List.length_append, ← Nat.add_assoc, ← Hq.out]
                simp only [Pt.out, List.length_append, zeros, List.length_replicate, partB_length, List.length_take, Hrl.out]
                omega
              · show _ = _
                rw [Ht.out, toCome_step q _ rest (by rw [Hrl.out]; exact .inr h0), ← Hk.out, Hrl.out, ← HKD.out, emits_snoc]
                simp only [Pt.out, List.append_assoc]
              · rw [show ((q + gapOf q + 7 + k : Nat) : Int) = (q : Int) + (gapOf q : Int) + 7 + (k : Int) from by omega]
                simp only [emp_sep, sep_emp]
                ac_rfl
          · gi_wp2
            go_wp2
            refine bodyPost_ret (results_none rfl _ _ _) rfl ?_
            exact ⟨⟨_, rfl⟩, .inr ⟨_, trivial, Mod.to (m := Mod.dropR (m := m5)) (sep_emp _).symm⟩⟩
    · have hb : begun = true := by cases begun <;> simp_all
      have h0 : nr = 0 := by omega
      subst hb h0
      have hre : rest = [] := List.eq_nil_of_length_eq_zero hrl
      have Hte : Hid (writ p true rec = emits pre) := by
        show _ = _
        rw [Ht.out, hre, toCome_end, List.append_nil]
      clear Ht hre hgo hgk
      go_wp2
      go_end0
      exact ⟨⟨_, rfl⟩, .inl ⟨pre, Hte.out.symm, Mod.to (m := Mod.dropR (m := m2)) (sep_emp _).symm⟩⟩
end Go.Proofs.YtmpgnnjhgjfgaaaDoor
