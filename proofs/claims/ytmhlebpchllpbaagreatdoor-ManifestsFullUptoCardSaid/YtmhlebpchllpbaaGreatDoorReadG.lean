/- The walks of bytes.Clone and of journals' function read: what the bytes of a journal read as: contracts over the small separation logic; the conditions are in each theorem.
The walk of journals' function read: what the bytes of a journal read as: a contract over the small separation logic; the conditions are in the theorem. -/
import Derived.Test.YtmhlebpchllpbaaGreatDoorPartsG
namespace Go.Proofs.YtmhlebpchllpbaaGreatDoor
open Go.RowKit Go.Sl
attribute [local go_sem] cell_of frozen_of zero_names eql_nil_bytes
set_option maxHeartbeats 1000000 in
theorem bclone_bytes (A : Option Addr) (k c : Nat) (xs : List Value) (w w0 : World) (S : Asn) (m : Mod w w0 S) (r : Reads S A k xs) (h1 : ∀ u ∈ xs, u.oneCell' = true) (hk : k ≤ 140737488355328) :
    Calls Tryz.prog 105 #[.slice A k c] w fun e w' => ∃ A' c', e = .returned (.slice A' k c') ∧ Mod w' w0 (rowA 5 1 (.slice A' k c') k xs * S) := by
  have hlen := reads_len m r
  cases A with
  | none =>
    have hk0 : k = 0 := by
      rcases Nat.eq_zero_or_pos k with h | h
      · exact h
      · obtain ⟨ad, ha, _⟩ := reads_cell m r h; cases ha
    subst hk0
    have hxs : xs = [] := List.eq_nil_of_length_eq_zero hlen
    subst hxs
    go_enter Tryz.func105, Tryz.ntmps105
    go_wp2
    go_ret
    exact ⟨none, 0, rfl, row_none m⟩
  | some ad =>
    go_enter Tryz.func105, Tryz.ntmps105
    go_wp2_with (at_builtin; (refine wpList_append (v := .slice (some ⟨w.heap.size, 0, none⟩) 0 0) (A := some ad) (k := k) (c := c) rfl rfl (row_made inferInstance) rfl rfl h1 (by unfold maxLen; omega) (by omega) ?_); intro A' c' w3 _m3)
    go_ret
    simp only [Nat.zero_add, List.nil_append, emp_sep] at _m3 ⊢
    exact ⟨A', c', rfl, _m3⟩
/-- The rows of records, each its own. -/
def recRows : List (Option Addr × Nat) → List (List UInt8) → Asn
  | h :: hs, r :: rs => rowA 5 1 (.slice h.1 r.length h.2) r.length (u8s r) * recRows hs rs
  | _, _ => emp
theorem recRows_snoc (A : Option Addr) (c : Nat) (l : List UInt8) : ∀ (hs : List (Option Addr × Nat)) (rs : List (List UInt8)), hs.length = rs.length → recRows (hs ++ [(A, c)]) (rs ++ [l]) = rowA 5 1 (.slice A l.length c) l.length (u8s l) * recRows hs rs
  | [], [], _ => rfl
  | h :: hs, r :: rs, e => by
    show rowA _ _ _ _ _ * recRows (hs ++ [(A, c)]) (rs ++ [l]) = _ * (_ * _)
    rw [recRows_snoc A c l hs rs (by simpa using e), sep_left_comm]
  | [], _ :: _, e => by cases e
  | _ :: _, [], e => by cases e
structure RecsIn (G : Asn) (xs : List Value) (rs : List (List UInt8)) : Prop where
  each : ∃ hs : List (Option Addr × Nat), hs.length = rs.length ∧ xs = ((hs.zip rs).map fun q => Value.slice q.1.1 q.2.length q.1.2) ∧ G = recRows hs rs ∧ ∀ i (h1 : i < hs.length) (h2 : i < rs.length), Reads G hs[i].1 rs[i].length (u8s rs[i]) ∧ rs[i].length ≤ hs[i].2
theorem RecsIn.length {G : Asn} {xs : List Value} {rs : List (List UInt8)} (r : RecsIn G xs rs) : xs.length = rs.length := by
  obtain ⟨hs, h1, rfl, _⟩ := r
  simp [h1]
theorem RecsIn.nil : RecsIn emp [] [] := ⟨[], rfl, rfl, rfl, fun i h => absurd h (by simp)⟩
theorem RecsIn.snoc {G : Asn} {xs : List Value} {rs : List (List UInt8)} (r : RecsIn G xs rs) (A : Option Addr) (c : Nat) (l : List UInt8) (hc : l.length ≤ c) :
    RecsIn (rowA 5 1 (.slice A l.length c) l.length (u8s l) * G) (xs ++ [.slice A l.length c]) (rs ++ [l]) := by
  obtain ⟨hs, h1, rfl, hG, h3⟩ := r
  refine ⟨hs ++ [(A, c)], by simp [h1], by rw [List.zip_append h1]; simp, by rw [recRows_snoc A c l hs rs h1, hG], fun i a b => ?_⟩
  by_cases h : i < rs.length
  · have hi : i < hs.length := by omega
    have := h3 i hi h
    simp only [List.getElem_append_left h, List.getElem_append_left hi]
    exact ⟨reads_lift inferInstance this.1, this.2⟩
  · have e : i = rs.length := by simp at b; omega
    subst e
    have e1 : (hs ++ [(A, c)])[rs.length] = (A, c) := by
      rw [List.getElem_append_right (by omega)]; simp [h1]
    have e2 : (rs ++ [l])[rs.length] = l := by simp
    simp only [e1, e2]
    exact ⟨inferInstance, hc⟩
theorem seven {b : List UInt8} {q : Nat} (h : q + 7 ≤ b.length) : ∃ a0 a1 a2 a3 l1 l0 kind, b.drop q = a0 :: a1 :: a2 :: a3 :: l1 :: l0 :: kind :: b.drop (q + 7) ∧ b[q + 4]? = some l1 ∧ b[q + 5]? = some l0 ∧ b[q + 6]? = some kind := by
  refine ⟨b[q], b[q + 1], b[q + 2], b[q + 3], b[q + 4], b[q + 5], b[q + 6], ?_, List.getElem?_eq_getElem _, List.getElem?_eq_getElem _, List.getElem?_eq_getElem _⟩
  rw [List.drop_eq_getElem_cons (by omega), List.drop_eq_getElem_cons (by omega : q + 1 < b.length), List.drop_eq_getElem_cons (by omega : q + 1 + 1 < b.length), List.drop_eq_getElem_cons (by omega : q + 1 + 1 + 1 < b.length),
    List.drop_eq_getElem_cons (by omega : q + 1 + 1 + 1 + 1 < b.length), List.drop_eq_getElem_cons (by omega : q + 1 + 1 + 1 + 1 + 1 < b.length), List.drop_eq_getElem_cons (by omega : q + 1 + 1 + 1 + 1 + 1 + 1 < b.length)]
theorem partAt_eq {b : List UInt8} {q : Nat} {a0 a1 a2 a3 l1 l0 kind : UInt8} (h : b.drop q = a0 :: a1 :: a2 :: a3 :: l1 :: l0 :: kind :: b.drop (q + 7)) :
    Sl.partAt b q = if (128 - (q + 7) % 128 < l1.toNat * 256 + l0.toNat ∧ 0 < l1.toNat * 256 + l0.toNat) ∨ (b.drop (q + 7)).length < l1.toNat * 256 + l0.toNat ∨ (crcOf kind ((b.drop (q + 7)).take (l1.toNat * 256 + l0.toNat))).toNat ≠ four4 a0 a1 a2 a3 then none
    else some (kind, (b.drop (q + 7)).take (l1.toNat * 256 + l0.toNat), q + 7 + (l1.toNat * 256 + l0.toNat)) := by
  unfold Sl.partAt
  rw [h]
end Go.Proofs.YtmhlebpchllpbaaGreatDoor
namespace Go.Proofs.YtmhlebpchllpbaaGreatDoor
open Go.RowKit Go.Sl
attribute [local go_sem] cell_of frozen_of zero_names eql_nil_bytes
theorem partAt_few {b : List UInt8} {q : Nat} (h : b.length < q + 7) : Sl.partAt b q = none := by
  unfold Sl.partAt
  split
  · rename_i a0 a1 a2 a3 l1 l0 k rest e
    have := congrArg List.length e
    rw [List.length_drop] at this
    simp only [List.length_cons] at this
    omega
  · rfl
theorem i64_or_nat (a b : Nat) (ha : a < 65536) (hb : b < 65536) : bits .or .i64 (a : Int) (b : Int) = ((a ||| b : Nat) : Int) := by
  have hx : a ||| b < 2 ^ 16 := Nat.or_lt_two_pow (by omega) (by omega)
  have e : ∀ k : Nat, k < 65536 → (BitVec.ofInt 64 (k : Int)).toNat = k := fun k hk => by simp; omega
  show IntKind.i64.wrap ((BitVec.ofInt 64 (a : Int) ||| BitVec.ofInt 64 (b : Int)).toNat : Int) = _
  rw [BitVec.toNat_or, e a ha, e b hb, IntKind.wrap_i64]
  omega
theorem or_two (l1 l0 : UInt8) : bits .or .i64 (wrap64 (wrap64 (l1.toNat : Int) * 256)) (wrap64 (l0.toNat : Int)) = ((l1.toNat * 256 + l0.toNat : Nat) : Int) := by
  have h1 := l1.toNat_lt
  have h0 := l0.toNat_lt
  have e1 : wrap64 (l1.toNat : Int) = (l1.toNat : Int) := by unfold wrap64; omega
  have e0 : wrap64 (l0.toNat : Int) = (l0.toNat : Int) := by unfold wrap64; omega
  have e2 : wrap64 ((l1.toNat : Int) * 256) = ((l1.toNat * 256 : Nat) : Int) := by unfold wrap64; omega
  rw [e1, e0, e2, i64_or_nat _ _ (by omega) (by omega), nat_join 8 (l1.toNat * 256) l0.toNat (by omega) (by omega)]
/-- where reading stands: what has been told and what is still to come is all -/
def standsAt (b : List UInt8) (q : Nat) (bgn : Bool) (cur : List UInt8) (last : Nat) (rs : List (List UInt8)) : Prop :=
  ∃ p, q = p + gapOf p ∧ readAll b = (rs ++ (readFrom b p bgn cur last).1, (readFrom b p bgn cur last).2)
theorem standsAt_start (b : List UInt8) : standsAt b (gapOf 0) false [] 0 [] := ⟨0, by simp, rfl⟩
theorem standsAt_end {b : List UInt8} {q : Nat} {bgn : Bool} {cur : List UInt8} {last : Nat} {rs : List (List UInt8)} (h : standsAt b q bgn cur last rs) (hn : Sl.partAt b q = none) : readAll b = (rs, last) := by
  obtain ⟨p, rfl, h⟩ := h
  rw [h, readFrom_none hn, List.append_nil]
theorem standsAt_unfit {b : List UInt8} {q : Nat} {bgn : Bool} {cur : List UInt8} {last : Nat} {rs : List (List UInt8)} {k : UInt8} {x : List UInt8} {e : Nat} (h : standsAt b q bgn cur last rs) (hn : Sl.partAt b q = some (k, x, e)) (hk : fitKind bgn k = false) : readAll b = (rs, last) := by
  obtain ⟨p, rfl, h⟩ := h
  rw [h, readFrom_unfit hn hk, List.append_nil]
theorem standsAt_on {b : List UInt8} {q : Nat} {bgn : Bool} {cur : List UInt8} {last : Nat} {rs : List (List UInt8)} {k : UInt8} {x : List UInt8} {e : Nat} (h : standsAt b q bgn cur last rs) (hn : Sl.partAt b q = some (k, x, e)) (hk : fitKind bgn k = true) (hg : goesOn k = true) :
    standsAt b (e + gapOf e) true (cur ++ x) last rs := by
  obtain ⟨p, rfl, h⟩ := h
  exact ⟨e, rfl, by rw [h, readFrom_on hn hk hg]⟩
theorem standsAt_whole {b : List UInt8} {q : Nat} {bgn : Bool} {cur : List UInt8} {last : Nat} {rs : List (List UInt8)} {k : UInt8} {x : List UInt8} {e : Nat} (h : standsAt b q bgn cur last rs) (hn : Sl.partAt b q = some (k, x, e)) (hk : fitKind bgn k = true) (hg : goesOn k = false) :
    standsAt b (e + gapOf e) false [] e (rs ++ [cur ++ x]) := by
  obtain ⟨p, rfl, h⟩ := h
  exact ⟨e, rfl, by rw [h, readFrom_whole hn hk hg]; simp⟩
theorem keep4 {w w0 : World} {A B C D E G1 G2 : Asn} (m : Mod w w0 (A * (B * (G1 * (C * (G2 * (D * E))))))) : Mod w w0 (B * (A * (C * D * E))) := Mod.drop (A := G1 * G2) (m := Mod.to (m := m) (by ac_rfl))
instance : RowT Tryz.prog 73 63 24 := ⟨Tryz.underlying73, by kernel_rfl⟩
theorem kind_cases (bgn : Bool) (kind : UInt8) : (bgn = false ∧ kind = 1) ∨ (bgn = false ∧ kind = 2) ∨ (bgn = true ∧ kind = 3) ∨ (bgn = true ∧ kind = 4) ∨
    (fitKind bgn kind = false ∧ ((bgn = false ∧ kind.toNat ≠ 1 ∧ kind.toNat ≠ 2) ∨ (bgn = true ∧ kind.toNat ≠ 3 ∧ kind.toNat ≠ 4))) := by
  have e : ∀ k : UInt8, ∀ n : Nat, n < 256 → (kind.toNat = n → kind = UInt8.ofNat n) := fun k n hn h => by
    rw [← h]; simp
  cases bgn
  · by_cases h1 : kind = 1
    · exact .inl ⟨rfl, h1⟩
    · by_cases h2 : kind = 2
      · exact .inr (.inl ⟨rfl, h2⟩)
      · exact .inr (.inr (.inr (.inr ⟨by simp [fitKind, h1, h2], .inl ⟨rfl, fun h => h1 (e kind 1 (by omega) h), fun h => h2 (e kind 2 (by omega) h)⟩⟩)))
  · by_cases h1 : kind = 3
    · exact .inr (.inr (.inl ⟨rfl, h1⟩))
    · by_cases h2 : kind = 4
      · exact .inr (.inr (.inr (.inl ⟨rfl, h2⟩)))
      · exact .inr (.inr (.inr (.inr ⟨by simp [fitKind, h1, h2], .inr ⟨rfl, fun h => h1 (e kind 3 (by omega) h), fun h => h2 (e kind 4 (by omega) h)⟩⟩)))
theorem row_le {w w0 : World} {e : TypeId} {A : Option Addr} {k c : Nat} {xs : List Value} {F : Asn} (m : Mod w w0 (rowA e 1 (.slice A k c) k xs * F)) : k ≤ c := by
  rcases (owns_of_row m).2 with ⟨h1, h2⟩ | ⟨g, cap, cur, h1, _, _, h2, _⟩
  · omega
  · injection h1 with _ _ h3; omega
def ReadSays (rd : List (List UInt8) × Nat) (w0 : World) (S : Asn) (e : Ending) (w' : World) : Prop :=
  ∃ A' c' xs R, e = .returned (.tuple #[.slice A' rd.1.length c', .int .i64 (rd.2 : Int)]) ∧ RecsIn R xs rd.1 ∧ Mod w' w0 (rowA 63 1 (.slice A' rd.1.length c') rd.1.length xs * (R * S))
set_option maxRecDepth 4000 in
set_option maxHeartbeats 4000000 in
theorem read_spec (B : Option Addr) (n c : Nat) (b : List UInt8) (w w0 : World) (S : Asn) (m : Mod w w0 S) (r : Reads S B n (u8s b)) (hc : n ≤ c) (hn : n ≤ 1073741824) :
    Calls Tryz.prog 60 #[.slice B n c] w (ReadSays (readAll b) w0 S) := by
  have hbl : b.length = n := by have := reads_len m r; rwa [length_u8s] at this
  obtain ⟨rd, hrd⟩ : ∃ rd, readAll b = rd := ⟨_, rfl⟩
  have Hrd := Lib.hid hrd
  have Hbl := Lib.hid hbl
  rw [hrd]
  clear hrd hbl
  go_enter Tryz.func60, Tryz.ntmps60
  go_wp2_with fail
  go_step3
  go_wp2_with fail
  go_step3
  go_wp2_with (go_at_call 102; refine (gap_spec 0 _ w0 S m (by omega)).mono ?_; rintro e w1 ⟨rfl, m1⟩)
  go_loopg [2, 3, 4, 5, 6] (n + 8) (fun gk vr ve vc vb va wr => ∃ (rs : List (List UInt8)) (last : Nat) (cur : List UInt8) (bgn : Bool) (q : Nat) (xs : List Value) (R : Asn) (Ar Ac : Option Addr) (cr cc : Nat),
    gk = n + 8 - q ∧ vr = .slice Ar rs.length cr ∧ ve = .int .i64 (last : Int) ∧ vc = .slice Ac cur.length cc ∧ vb = .bool bgn ∧ va = .int .i64 (q : Int) ∧ q ≤ n + 7 ∧ cur.length ≤ q ∧ rs.length ≤ q ∧
    Hid (standsAt b q bgn cur last rs) ∧ RecsIn R xs rs ∧ Mod wr w0 (rowA 63 1 (.slice Ar rs.length cr) rs.length xs * (rowA 5 1 (.slice Ac cur.length cc) cur.length (u8s cur) * (R * S))))
  case atStart =>
    exact ⟨[], 0, [], false, gapOf 0, [], emp, none, none, 0, 0, by simp [gapOf], rfl, rfl, rfl, rfl, rfl, by simp [gapOf], by simp, by simp, standsAt_start b, RecsIn.nil, row_none (row_none (Mod.to (emp_sep S).symm (m := m1)))⟩
  case round =>
    obtain ⟨rs, last, cur, bgn, q, xs, R, Ar, Ac, cr, cc, hgk, rfl, rfl, rfl, rfl, rfl, hq, hcl, hrl, Hst, hrec, m2⟩ := hrel
    by_cases h7 : q + 7 ≤ n
    · obtain ⟨SS, hSS, mSS⟩ : ∃ SS, SS = _ ∧ Mod wr w0 SS := ⟨_, rfl, m2⟩
      have r1 : Reads SS B n (u8s b) := by rw [hSS]; infer_instance
      have HSS := Lib.hid hSS
      clear hSS
      obtain ⟨ad, hB, hsp, hcl0⟩ := reads_cell mSS r1 (by omega)
      clear hcl0
      obtain ⟨bb, oo, sp⟩ := ad
      simp only at hsp
      subst hsp hB
      obtain ⟨a0, a1, a2, a3, l1, l0, kind, hd, h4, h5, h6⟩ := seven (b := b) (q := q) (by rw [Hbl.out]; exact h7)
      have r2 := reads_cut r1 (by omega : q ≤ n) hc
      rw [if_neg (by omega), hd] at r2
      have Hd := Lib.hid hd
      have H4 := Lib.hid h4
      have H5 := Lib.hid h5
      have H6 := Lib.hid h6
      have Hgk := Lib.hid hgk
      clear hd h4 h5 h6 hgk
      rw [Option.map_some, add_off _ _ rfl] at r2
      go_wp2_with fail
      refine (getFour_spec (some ⟨bb, oo + q, none⟩) (n - q) (c - q) a0 a1 a2 a3 (l1 :: l0 :: kind :: b.drop (q + 7)) wr w0 SS mSS r2 (by omega) (by omega)).mono ?_
      rintro e w3 ⟨rfl, m3⟩
      go_wp2_with fail
      obtain ⟨ad, hB, _, hcell⟩ := reads_cell m3 r1 (by omega)
      injection hB with hB
      subst hB
      have hx4 := hcell (q + 4) (.int .u8 (l1.toNat : Int)) (by simp [u8s, H4.out])
      have hx5 := hcell (q + 5) (.int .u8 (l0.toNat : Int)) (by simp [u8s, H5.out])
      have hx6 := hcell (q + 6) (.int .u8 (kind.toNat : Int)) (by simp [u8s, H6.out])
      clear hcell mSS m2
      go_quiet (fail)
      rw [or_two]
      have m4 : Mod (w3.drewN nq) w0 SS := Mod.drewN (m := m3) nq
      generalize w3.drewN nq = w4 at *
      have hlen : (b.drop (q + 7)).length = n - (q + 7) := by rw [List.length_drop, Hbl.out]
      have Hpa := Lib.hid (partAt_eq Hd.out)
      have h11 := l1.toNat_lt
      have h10 := l0.toNat_lt
      obtain ⟨nn, hnn⟩ : ∃ nn, l1.toNat * 256 + l0.toNat = nn := ⟨_, rfl⟩
      rw [hnn] at Hpa ⊢
      have hnl : nn < 65536 := by omega
      clear hx4 hx5 hx6 H4 H5 H6 hnn h11 h10
      have Hlen := Lib.hid hlen
      clear hlen
      by_cases hA : 128 - (q + 7) % 128 < nn
      · have Hn : Hid (readAll b = (rs, last)) := standsAt_end Hst.out (by rw [Hpa.out, if_pos (.inl ⟨hA, by omega⟩)])
        obtain rfl : (rs, last) = rd := by rw [← Hrd.out, Hn.out]
        rw [HSS.out] at m4
        go_wp2_with fail
        (try rw [Exit.noGoto_ret])
        go_ret2
        exact ⟨Ar, cr, xs, R, rfl, hrec, drop_mid m4⟩
      · by_cases hB : n < q + 7 + nn
        · have Hn : Hid (readAll b = (rs, last)) := standsAt_end Hst.out (by rw [Hpa.out, if_pos (.inr (.inl (by rw [Hlen.out]; omega)))])
          obtain rfl : (rs, last) = rd := by rw [← Hrd.out, Hn.out]
          rw [HSS.out] at m4
          go_wp2_with fail
          (try rw [Exit.noGoto_ret])
          go_ret2
          exact ⟨Ar, cr, xs, R, rfl, hrec, drop_mid m4⟩
        · obtain ⟨piece, hpiece⟩ : ∃ piece, (b.drop (q + 7)).take nn = piece := ⟨_, rfl⟩
          have hpl : piece.length = nn := by rw [← hpiece, List.length_take, Hlen.out]; omega
          have Hpiece := Lib.hid hpiece
          have Hpl := Lib.hid hpl
          have r4 := r1.part (q + 7) nn (by omega)
          rw [u8s_part, hpiece, Option.map_some, add_off _ _ rfl] at r4
          clear hpiece hpl
          by_cases hcq : c = q + 7
          · subst hcq
            have r3 : Reads SS (some ⟨bb, oo, none⟩) nn (u8s piece) := by
              have e0 : nn = 0 := by omega
              have e1 : piece = [] := List.eq_nil_of_length_eq_zero (by rw [Hpl.out]; exact e0)
              rw [e0, e1]; exact Reads.none_of _
            have HC := Lib.hid (sum_spec kind (some ⟨bb, oo, none⟩) nn 0 piece w4 w0 SS m4 r3 (by omega))
            by_cases hC : (crcOf kind piece).toNat = four4 a0 a1 a2 a3
            · rw [hC] at HC
              have Hp : Hid (Sl.partAt b q = some (kind, piece, q + 7 + nn)) := by
                show _ = _
                rw [Hpa.out, Hpiece.out, if_neg]
                simp only [not_or, not_and, Hlen.out]
                exact ⟨fun h => absurd h hA, by omega, by simp [hC]⟩
              clear hC
              go_wp2_with fail
              refine HC.out.mono ?_
              rintro e w5 ⟨rfl, m5⟩
              rw [HSS.out] at m5 r3
              clear HSS r1 r2 r4 m4 HC
              have Hsub : Hid (q + 7 + nn - (q + 7) = nn) := (by omega : q + 7 + nn - (q + 7) = nn)
              rcases kind_cases bgn kind with ⟨rfl, rfl⟩ | ⟨rfl, rfl⟩ | ⟨rfl, rfl⟩ | ⟨rfl, rfl⟩ | ⟨hf, ⟨rfl, hk1, hk2⟩ | ⟨rfl, hk1, hk2⟩⟩
              · have hkn : (((1 : UInt8).toNat : Nat) : Int) = 1 := by decide
                have Hst2 := Lib.hid (standsAt_whole Hst.out Hp.out (by rfl) (by rfl))
                clear Hst Hpa Hp
                go_wp2_with (at_builtin; (refine wpList_append (v := .slice Ac cur.length cc) (A := some ⟨bb, oo, none⟩) (k := nn) (c := 0) (news := u8s piece) (r := r3) rfl rfl m5 rfl (by show Value.slice _ (q + 7 + nn - (q + 7)) _ = _; rw [Hsub.out]) (one_u8s _) (by unfold maxLen; omega) (by omega) ?_); intro A6 c6 w6 m6)
                refine (bclone_bytes A6 (cur.length + nn) c6 (u8s cur ++ u8s piece) w6 w0 _ m6 inferInstance (by rw [← u8s_append]; exact one_u8s _) (by omega)).mono ?_
                rintro e w7 ⟨A7, c7, rfl, m7⟩
                have hle := row_le (m := m7)
                go_wp2_with (at_builtin; refine Hid.out ?_)
                refine Lib.hid ?_
                have mm : Mod (w7.alloc (.cells #[.slice A7 (cur.length + nn) c7] 63)) w0 _ := inferInstance
                refine wpList_append (v := .slice Ar rs.length cr) (A := some ⟨w7.heap.size, 0, none⟩) (k := 1) (c := 1) (news := [.slice A7 (cur.length + nn) c7]) (r := reads_blk rfl rfl) rfl rfl mm rfl rfl (by simp [Value.oneCell']) (by unfold maxLen; omega) (by omega) ?_
                intro A8 c8 w8 m8
                have m9 := row_none (e := 5) m8
                go_wp2_with fail
                have hg7 := gapOf_le (q + 7 + nn)
                refine (gap_int _ (q + 7 + nn) (by omega) w8 w0 _ m9 (by omega)).mono ?_
                rintro e w9 ⟨rfl, m10⟩
                go_wp2_with fail
                have hlc : (cur ++ piece).length = cur.length + nn := by rw [List.length_append, Hpl.out]
                have hr9 := RecsIn.snoc hrec A7 c7 (cur ++ piece) (by rw [hlc]; exact hle)
                rw [hlc] at hr9
                go_roundg (n + 8 - (q + 7 + nn + gapOf (q + 7 + nn)))
                case measure => rw [Hgk.out]; omega
                case rel =>
                  refine ⟨rs ++ [cur ++ piece], q + 7 + nn, [], false, q + 7 + nn + gapOf (q + 7 + nn), xs ++ [.slice A7 (cur.length + nn) c7], _, A8, none, c8, 0, rfl, by rw [List.length_append]; rfl, by go_num, rfl, rfl, by go_num, by omega, by simp, by simp; omega, Hst2, hr9, ?_⟩
                  have e1 : (rs ++ [cur ++ piece]).length = rs.length + 1 := by simp
                  simp only [emp_sep] at m10
                  rw [e1, u8s_append]
                  exact keep4 m10
              · have hkn : (((2 : UInt8).toNat : Nat) : Int) = 2 := by decide
                have Hst2 := Lib.hid (standsAt_on Hst.out Hp.out (by rfl) (by rfl))
                clear Hst Hpa Hp
                go_wp2_with (at_builtin; (refine wpList_append (v := .slice Ac cur.length cc) (A := some ⟨bb, oo, none⟩) (k := nn) (c := 0) (news := u8s piece) (r := r3) rfl rfl m5 rfl (by show Value.slice _ (q + 7 + nn - (q + 7)) _ = _; rw [Hsub.out]) (one_u8s _) (by unfold maxLen; omega) (by omega) ?_); intro A6 c6 w6 m6)
                have hg7 := gapOf_le (q + 7 + nn)
                refine (gap_int _ (q + 7 + nn) (by omega) w6 w0 _ m6 (by omega)).mono ?_
                rintro e w7 ⟨rfl, m7⟩
                go_wp2_with fail
                go_roundg (n + 8 - (q + 7 + nn + gapOf (q + 7 + nn)))
                case measure => rw [Hgk.out]; omega
                case rel =>
                  refine ⟨rs, last, cur ++ piece, true, q + 7 + nn + gapOf (q + 7 + nn), xs, R, Ar, A6, cr, c6, rfl, rfl, rfl, by rw [List.length_append, Hpl.out], rfl, by go_num, by omega, by rw [List.length_append, Hpl.out]; omega, by omega, Hst2, hrec, ?_⟩
                  rw [List.length_append, Hpl.out, u8s_append]
                  exact Mod.to (m := m7) (by simp only [emp_sep]; ac_rfl)
              · have hkn : (((3 : UInt8).toNat : Nat) : Int) = 3 := by decide
                have Hst2 := Lib.hid (standsAt_on Hst.out Hp.out (by rfl) (by rfl))
                clear Hst Hpa Hp
                go_wp2_with (at_builtin; (refine wpList_append (v := .slice Ac cur.length cc) (A := some ⟨bb, oo, none⟩) (k := nn) (c := 0) (news := u8s piece) (r := r3) rfl rfl m5 rfl (by show Value.slice _ (q + 7 + nn - (q + 7)) _ = _; rw [Hsub.out]) (one_u8s _) (by unfold maxLen; omega) (by omega) ?_); intro A6 c6 w6 m6)
                have hg7 := gapOf_le (q + 7 + nn)
                refine (gap_int _ (q + 7 + nn) (by omega) w6 w0 _ m6 (by omega)).mono ?_
                rintro e w7 ⟨rfl, m7⟩
                go_wp2_with fail
                go_roundg (n + 8 - (q + 7 + nn + gapOf (q + 7 + nn)))
                case measure => rw [Hgk.out]; omega
                case rel =>
                  refine ⟨rs, last, cur ++ piece, true, q + 7 + nn + gapOf (q + 7 + nn), xs, R, Ar, A6, cr, c6, rfl, rfl, rfl, by rw [List.length_append, Hpl.out], rfl, by go_num, by omega, by rw [List.length_append, Hpl.out]; omega, by omega, Hst2, hrec, ?_⟩
                  rw [List.length_append, Hpl.out, u8s_append]
                  exact Mod.to (m := m7) (by simp only [emp_sep]; ac_rfl)
              · have hkn : (((4 : UInt8).toNat : Nat) : Int) = 4 := by decide
                have Hst2 := Lib.hid (standsAt_whole Hst.out Hp.out (by rfl) (by rfl))
                clear Hst Hpa Hp
                go_wp2_with (at_builtin; (refine wpList_append (v := .slice Ac cur.length cc) (A := some ⟨bb, oo, none⟩) (k := nn) (c := 0) (news := u8s piece) (r := r3) rfl rfl m5 rfl (by show Value.slice _ (q + 7 + nn - (q + 7)) _ = _; rw [Hsub.out]) (one_u8s _) (by unfold maxLen; omega) (by omega) ?_); intro A6 c6 w6 m6)
                refine (bclone_bytes A6 (cur.length + nn) c6 (u8s cur ++ u8s piece) w6 w0 _ m6 inferInstance (by rw [← u8s_append]; exact one_u8s _) (by omega)).mono ?_
                rintro e w7 ⟨A7, c7, rfl, m7⟩
                have hle := row_le (m := m7)
                go_wp2_with (at_builtin; refine Hid.out ?_)
                refine Lib.hid ?_
                have mm : Mod (w7.alloc (.cells #[.slice A7 (cur.length + nn) c7] 63)) w0 _ := inferInstance
                refine wpList_append (v := .slice Ar rs.length cr) (A := some ⟨w7.heap.size, 0, none⟩) (k := 1) (c := 1) (news := [.slice A7 (cur.length + nn) c7]) (r := reads_blk rfl rfl) rfl rfl mm rfl rfl (by simp [Value.oneCell']) (by unfold maxLen; omega) (by omega) ?_
                intro A8 c8 w8 m8
                have m9 := row_none (e := 5) m8
                go_wp2_with fail
                have hg7 := gapOf_le (q + 7 + nn)
                refine (gap_int _ (q + 7 + nn) (by omega) w8 w0 _ m9 (by omega)).mono ?_
                rintro e w9 ⟨rfl, m10⟩
                go_wp2_with fail
                have hlc : (cur ++ piece).length = cur.length + nn := by rw [List.length_append, Hpl.out]
                have hr9 := RecsIn.snoc hrec A7 c7 (cur ++ piece) (by rw [hlc]; exact hle)
                rw [hlc] at hr9
                go_roundg (n + 8 - (q + 7 + nn + gapOf (q + 7 + nn)))
                case measure => rw [Hgk.out]; omega
                case rel =>
                  refine ⟨rs ++ [cur ++ piece], q + 7 + nn, [], false, q + 7 + nn + gapOf (q + 7 + nn), xs ++ [.slice A7 (cur.length + nn) c7], _, A8, none, c8, 0, rfl, by rw [List.length_append]; rfl, by go_num, rfl, rfl, by go_num, by omega, by simp, by simp; omega, Hst2, hr9, ?_⟩
                  have e1 : (rs ++ [cur ++ piece]).length = rs.length + 1 := by simp
                  simp only [emp_sep] at m10
                  rw [e1, u8s_append]
                  exact keep4 m10
              · have Hn : Hid (readAll b = (rs, last)) := standsAt_unfit Hst.out Hp.out hf
                obtain rfl : (rs, last) = rd := by rw [← Hrd.out, Hn.out]
                clear Hn Hst Hpa Hp hf
                have hk3 : ((kind.toNat : Int) == 1) = false := beq_eq_false_iff_ne.2 (by omega)
                have hk4 : ((kind.toNat : Int) == 2) = false := beq_eq_false_iff_ne.2 (by omega)
                go_wp2_with fail
                (try rw [Exit.noGoto_ret])
                go_ret2
                exact ⟨Ar, cr, xs, R, rfl, hrec, drop_mid m5⟩
              · have Hn : Hid (readAll b = (rs, last)) := standsAt_unfit Hst.out Hp.out hf
                obtain rfl : (rs, last) = rd := by rw [← Hrd.out, Hn.out]
                clear Hn Hst Hpa Hp hf
                have hk3 : ((kind.toNat : Int) == 3) = false := beq_eq_false_iff_ne.2 (by omega)
                have hk4 : ((kind.toNat : Int) == 4) = false := beq_eq_false_iff_ne.2 (by omega)
                go_wp2_with fail
                (try rw [Exit.noGoto_ret])
                go_ret2
                exact ⟨Ar, cr, xs, R, rfl, hrec, drop_mid m5⟩
            · have Hn : Hid (readAll b = (rs, last)) := standsAt_end Hst.out (by rw [Hpa.out, Hpiece.out, if_pos (.inr (.inr hC))])
              obtain rfl : (rs, last) = rd := by rw [← Hrd.out, Hn.out]
              clear Hn Hpa
              generalize (crcOf kind piece).toNat = sm at *
              generalize four4 a0 a1 a2 a3 = wt at *
              have hCb : ((sm : Int) != (wt : Int)) = true := by rw [bne_iff_ne]; omega
              clear hC
              go_wp2_with fail
              refine HC.out.mono ?_
              rintro e w5 ⟨rfl, m5⟩
              go_wp2_with fail
              rw [HSS.out] at m5
              (try rw [Exit.noGoto_ret])
              go_ret2
              exact ⟨Ar, cr, xs, R, rfl, hrec, drop_mid m5⟩
          · -- the part's bytes
            have r3 : Reads SS (some ⟨bb, oo + (q + 7), none⟩) nn (u8s piece) := r4
            have HC := Lib.hid (sum_spec kind (some ⟨bb, oo + (q + 7), none⟩) nn (c - (q + 7)) piece w4 w0 SS m4 r3 (by omega))
            by_cases hC : (crcOf kind piece).toNat = four4 a0 a1 a2 a3
            · rw [hC] at HC
              have Hp : Hid (Sl.partAt b q = some (kind, piece, q + 7 + nn)) := by
                show _ = _
                rw [Hpa.out, Hpiece.out, if_neg]
                simp only [not_or, not_and, Hlen.out]
                exact ⟨fun h => absurd h hA, by omega, by simp [hC]⟩
              clear hC
              go_wp2_with fail
              refine HC.out.mono ?_
              rintro e w5 ⟨rfl, m5⟩
              rw [HSS.out] at m5 r3
              clear HSS r1 r2 r4 m4 HC
              have Hsub : Hid (q + 7 + nn - (q + 7) = nn) := (by omega : q + 7 + nn - (q + 7) = nn)
              rcases kind_cases bgn kind with ⟨rfl, rfl⟩ | ⟨rfl, rfl⟩ | ⟨rfl, rfl⟩ | ⟨rfl, rfl⟩ | ⟨hf, ⟨rfl, hk1, hk2⟩ | ⟨rfl, hk1, hk2⟩⟩
              · have hkn : (((1 : UInt8).toNat : Nat) : Int) = 1 := by decide
                have Hst2 := Lib.hid (standsAt_whole Hst.out Hp.out (by rfl) (by rfl))
                clear Hst Hpa Hp
                go_wp2_with (at_builtin; (refine wpList_append (v := .slice Ac cur.length cc) (A := some ⟨bb, oo + (q + 7), none⟩) (k := nn) (c := c - (q + 7)) (news := u8s piece) (r := r3) rfl rfl m5 rfl (by show Value.slice _ (q + 7 + nn - (q + 7)) _ = _; rw [Hsub.out]) (one_u8s _) (by unfold maxLen; omega) (by omega) ?_); intro A6 c6 w6 m6)
                refine (bclone_bytes A6 (cur.length + nn) c6 (u8s cur ++ u8s piece) w6 w0 _ m6 inferInstance (by rw [← u8s_append]; exact one_u8s _) (by omega)).mono ?_
                rintro e w7 ⟨A7, c7, rfl, m7⟩
                have hle := row_le (m := m7)
                go_wp2_with (at_builtin; refine Hid.out ?_)
                refine Lib.hid ?_
                have mm : Mod (w7.alloc (.cells #[.slice A7 (cur.length + nn) c7] 63)) w0 _ := inferInstance
                refine wpList_append (v := .slice Ar rs.length cr) (A := some ⟨w7.heap.size, 0, none⟩) (k := 1) (c := 1) (news := [.slice A7 (cur.length + nn) c7]) (r := reads_blk rfl rfl) rfl rfl mm rfl rfl (by simp [Value.oneCell']) (by unfold maxLen; omega) (by omega) ?_
                intro A8 c8 w8 m8
                have m9 := row_none (e := 5) m8
                go_wp2_with fail
                have hg7 := gapOf_le (q + 7 + nn)
                refine (gap_int _ (q + 7 + nn) (by omega) w8 w0 _ m9 (by omega)).mono ?_
                rintro e w9 ⟨rfl, m10⟩
                go_wp2_with fail
                have hlc : (cur ++ piece).length = cur.length + nn := by rw [List.length_append, Hpl.out]
                have hr9 := RecsIn.snoc hrec A7 c7 (cur ++ piece) (by rw [hlc]; exact hle)
                rw [hlc] at hr9
                go_roundg (n + 8 - (q + 7 + nn + gapOf (q + 7 + nn)))
                case measure => rw [Hgk.out]; omega
                case rel =>
                  refine ⟨rs ++ [cur ++ piece], q + 7 + nn, [], false, q + 7 + nn + gapOf (q + 7 + nn), xs ++ [.slice A7 (cur.length + nn) c7], _, A8, none, c8, 0, rfl, by rw [List.length_append]; rfl, by go_num, rfl, rfl, by go_num, by omega, by simp, by simp; omega, Hst2, hr9, ?_⟩
                  have e1 : (rs ++ [cur ++ piece]).length = rs.length + 1 := by simp
                  simp only [emp_sep] at m10
                  rw [e1, u8s_append]
                  exact keep4 m10
              · have hkn : (((2 : UInt8).toNat : Nat) : Int) = 2 := by decide
                have Hst2 := Lib.hid (standsAt_on Hst.out Hp.out (by rfl) (by rfl))
                clear Hst Hpa Hp
                go_wp2_with (at_builtin; (refine wpList_append (v := .slice Ac cur.length cc) (A := some ⟨bb, oo + (q + 7), none⟩) (k := nn) (c := c - (q + 7)) (news := u8s piece) (r := r3) rfl rfl m5 rfl (by show Value.slice _ (q + 7 + nn - (q + 7)) _ = _; rw [Hsub.out]) (one_u8s _) (by unfold maxLen; omega) (by omega) ?_); intro A6 c6 w6 m6)
                have hg7 := gapOf_le (q + 7 + nn)
                refine (gap_int _ (q + 7 + nn) (by omega) w6 w0 _ m6 (by omega)).mono ?_
                rintro e w7 ⟨rfl, m7⟩
                go_wp2_with fail
                go_roundg (n + 8 - (q + 7 + nn + gapOf (q + 7 + nn)))
                case measure => rw [Hgk.out]; omega
                case rel =>
                  refine ⟨rs, last, cur ++ piece, true, q + 7 + nn + gapOf (q + 7 + nn), xs, R, Ar, A6, cr, c6, rfl, rfl, rfl, by rw [List.length_append, Hpl.out], rfl, by go_num, by omega, by rw [List.length_append, Hpl.out]; omega, by omega, Hst2, hrec, ?_⟩
                  rw [List.length_append, Hpl.out, u8s_append]
                  exact Mod.to (m := m7) (by simp only [emp_sep]; ac_rfl)
              · have hkn : (((3 : UInt8).toNat : Nat) : Int) = 3 := by decide
                have Hst2 := Lib.hid (standsAt_on Hst.out Hp.out (by rfl) (by rfl))
                clear Hst Hpa Hp
                go_wp2_with (at_builtin; (refine wpList_append (v := .slice Ac cur.length cc) (A := some ⟨bb, oo + (q + 7), none⟩) (k := nn) (c := c - (q + 7)) (news := u8s piece) (r := r3) rfl rfl m5 rfl (by show Value.slice _ (q + 7 + nn - (q + 7)) _ = _; rw [Hsub.out]) (one_u8s _) (by unfold maxLen; omega) (by omega) ?_); intro A6 c6 w6 m6)
                have hg7 := gapOf_le (q + 7 + nn)
                refine (gap_int _ (q + 7 + nn) (by omega) w6 w0 _ m6 (by omega)).mono ?_
                rintro e w7 ⟨rfl, m7⟩
                go_wp2_with fail
                go_roundg (n + 8 - (q + 7 + nn + gapOf (q + 7 + nn)))
                case measure => rw [Hgk.out]; omega
                case rel =>
                  refine ⟨rs, last, cur ++ piece, true, q + 7 + nn + gapOf (q + 7 + nn), xs, R, Ar, A6, cr, c6, rfl, rfl, rfl, by rw [List.length_append, Hpl.out], rfl, by go_num, by omega, by rw [List.length_append, Hpl.out]; omega, by omega, Hst2, hrec, ?_⟩
                  rw [List.length_append, Hpl.out, u8s_append]
                  exact Mod.to (m := m7) (by simp only [emp_sep]; ac_rfl)
              · have hkn : (((4 : UInt8).toNat : Nat) : Int) = 4 := by decide
                have Hst2 := Lib.hid (standsAt_whole Hst.out Hp.out (by rfl) (by rfl))
                clear Hst Hpa Hp
                go_wp2_with (at_builtin; (refine wpList_append (v := .slice Ac cur.length cc) (A := some ⟨bb, oo + (q + 7), none⟩) (k := nn) (c := c - (q + 7)) (news := u8s piece) (r := r3) rfl rfl m5 rfl (by show Value.slice _ (q + 7 + nn - (q + 7)) _ = _; rw [Hsub.out]) (one_u8s _) (by unfold maxLen; omega) (by omega) ?_); intro A6 c6 w6 m6)
                refine (bclone_bytes A6 (cur.length + nn) c6 (u8s cur ++ u8s piece) w6 w0 _ m6 inferInstance (by rw [← u8s_append]; exact one_u8s _) (by omega)).mono ?_
                rintro e w7 ⟨A7, c7, rfl, m7⟩
                have hle := row_le (m := m7)
                go_wp2_with (at_builtin; refine Hid.out ?_)
                refine Lib.hid ?_
                have mm : Mod (w7.alloc (.cells #[.slice A7 (cur.length + nn) c7] 63)) w0 _ := inferInstance
                refine wpList_append (v := .slice Ar rs.length cr) (A := some ⟨w7.heap.size, 0, none⟩) (k := 1) (c := 1) (news := [.slice A7 (cur.length + nn) c7]) (r := reads_blk rfl rfl) rfl rfl mm rfl rfl (by simp [Value.oneCell']) (by unfold maxLen; omega) (by omega) ?_
                intro A8 c8 w8 m8
                have m9 := row_none (e := 5) m8
                go_wp2_with fail
                have hg7 := gapOf_le (q + 7 + nn)
                refine (gap_int _ (q + 7 + nn) (by omega) w8 w0 _ m9 (by omega)).mono ?_
                rintro e w9 ⟨rfl, m10⟩
                go_wp2_with fail
                have hlc : (cur ++ piece).length = cur.length + nn := by rw [List.length_append, Hpl.out]
                have hr9 := RecsIn.snoc hrec A7 c7 (cur ++ piece) (by rw [hlc]; exact hle)
                rw [hlc] at hr9
                go_roundg (n + 8 - (q + 7 + nn + gapOf (q + 7 + nn)))
                case measure => rw [Hgk.out]; omega
                case rel =>
                  refine ⟨rs ++ [cur ++ piece], q + 7 + nn, [], false, q + 7 + nn + gapOf (q + 7 + nn), xs ++ [.slice A7 (cur.length + nn) c7], _, A8, none, c8, 0, rfl, by rw [List.length_append]; rfl, by go_num, rfl, rfl, by go_num, by omega, by simp, by simp; omega, Hst2, hr9, ?_⟩
                  have e1 : (rs ++ [cur ++ piece]).length = rs.length + 1 := by simp
                  simp only [emp_sep] at m10
                  rw [e1, u8s_append]
                  exact keep4 m10
              · have Hn : Hid (readAll b = (rs, last)) := standsAt_unfit Hst.out Hp.out hf
                obtain rfl : (rs, last) = rd := by rw [← Hrd.out, Hn.out]
                clear Hn Hst Hpa Hp hf
                have hk3 : ((kind.toNat : Int) == 1) = false := beq_eq_false_iff_ne.2 (by omega)
                have hk4 : ((kind.toNat : Int) == 2) = false := beq_eq_false_iff_ne.2 (by omega)
                go_wp2_with fail
                (try rw [Exit.noGoto_ret])
                go_ret2
                exact ⟨Ar, cr, xs, R, rfl, hrec, drop_mid m5⟩
              · have Hn : Hid (readAll b = (rs, last)) := standsAt_unfit Hst.out Hp.out hf
                obtain rfl : (rs, last) = rd := by rw [← Hrd.out, Hn.out]
                clear Hn Hst Hpa Hp hf
                have hk3 : ((kind.toNat : Int) == 3) = false := beq_eq_false_iff_ne.2 (by omega)
                have hk4 : ((kind.toNat : Int) == 4) = false := beq_eq_false_iff_ne.2 (by omega)
                go_wp2_with fail
                (try rw [Exit.noGoto_ret])
                go_ret2
                exact ⟨Ar, cr, xs, R, rfl, hrec, drop_mid m5⟩
            · have Hn : Hid (readAll b = (rs, last)) := standsAt_end Hst.out (by rw [Hpa.out, Hpiece.out, if_pos (.inr (.inr hC))])
              obtain rfl : (rs, last) = rd := by rw [← Hrd.out, Hn.out]
              clear Hn Hpa
              generalize (crcOf kind piece).toNat = sm at *
              generalize four4 a0 a1 a2 a3 = wt at *
              have hCb : ((sm : Int) != (wt : Int)) = true := by rw [bne_iff_ne]; omega
              clear hC
              go_wp2_with fail
              refine HC.out.mono ?_
              rintro e w5 ⟨rfl, m5⟩
              go_wp2_with fail
              rw [HSS.out] at m5
              (try rw [Exit.noGoto_ret])
              go_ret2
              exact ⟨Ar, cr, xs, R, rfl, hrec, drop_mid m5⟩
    · have Hn : Hid (readAll b = (rs, last)) := standsAt_end Hst.out (partAt_few (by rw [Hbl.out]; omega))
      obtain rfl : (rs, last) = rd := by rw [← Hrd.out, Hn.out]
      go_wp2_with fail
      (try rw [Exit.noGoto_ret])
      go_ret2
      exact ⟨Ar, cr, xs, R, rfl, hrec, drop_mid m2⟩
end Go.Proofs.YtmhlebpchllpbaaGreatDoor
