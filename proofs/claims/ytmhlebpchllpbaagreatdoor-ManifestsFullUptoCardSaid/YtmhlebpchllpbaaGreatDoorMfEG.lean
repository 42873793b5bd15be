/- A manifest's Open on a disk without files of its own: contracts over the small separation logic; the conditions are in each theorem.
What Open's loop needs: plain lemmas and contracts; the conditions are in each theorem.
A manifest's Open on a disk that holds one: a contract over the small separation logic; the conditions are in the theorem.
A manifest that is not there, and Open of no disk: contracts; the conditions are in each theorem. -/
import Derived.Test.YtmhlebpchllpbaaGreatDoorMfDG
import Derived.Test.YtmhlebpchllpbaaGreatDoorMfCG
namespace Go.Proofs.YtmhlebpchllpbaaGreatDoor
open Go.RowKit Go.Sl
attribute [local go_sem] cell_of cellAt_of frozen_of zero_names
theorem row_nil {w w0 : World} {S : Asn} {e size : TypeId} (m : Mod w w0 S) : Mod w w0 (rowA e size (.slice none 0 0) 0 [] * S) :=
  ⟨m.os, m.tape, m.output, by
    rw [sep_assoc]
    refine ⟨Hp.none, hp w, Hp.none_apart _, (Hp.join_none _).symm, ⟨by simp, .inl ⟨rfl, rfl, rfl⟩⟩, m.says⟩⟩
set_option maxHeartbeats 1000000 in
theorem mOpen1_spec (s : ByteArray) (w w0 : World) (S : Asn) (m : Mod w w0 S) : Calls Tryz.prog 15 #[.string s] w fun e w' => e = .returned (.bool (ownB s)) ∧ Mod w' w0 S := by
  have HP := Lib.hid (fun (u : World) (mu : Mod u w0 S) => hasPrefix_spec s ⟨#[109]⟩ u w0 S mu)
  obtain ⟨z, hz⟩ : ∃ z, ownB s = z := ⟨_, rfl⟩
  have ho : Lib.hasPrefix s.data.toList (⟨#[109]⟩ : ByteArray).data.toList = z := hz
  rw [ho] at HP
  rw [hz]
  clear ho hz
  go_enter Tryz.func15, Tryz.ntmps15
  go_wp2_with (go_at_call 16; refine (HP.out _ m).mono ?_; rintro e w1 ⟨rfl, m1⟩)
  go_ret
  exact ⟨rfl, m1⟩
/-- Where the first own name is. -/
def ownIdx (l : List ByteArray) : Int := match l.findIdx? ownB with | some i => (i : Int) | none => -1
theorem ownIdx_at {l : List ByteArray} {i : Nat} (hi : i < l.length) (h : ∀ j (_ : j < l.length), j < i → ownB l[j] = false) (hp : ownB l[i] = true) : ownIdx l = (i : Int) := by
  unfold ownIdx
  have : l.findIdx? ownB = some i := by
    rw [List.findIdx?_eq_some_iff_getElem]
    exact ⟨hi, hp, fun j hj => by simp [h j (by omega) hj]⟩
  rw [this]
theorem ownIdx_none {l : List ByteArray} (h : ∀ j (_ : j < l.length), ownB l[j] = false) : ownIdx l = -1 := by
  unfold ownIdx
  have : l.findIdx? ownB = none := by
    rw [List.findIdx?_eq_none_iff]
    intro x hx
    obtain ⟨i, hi, rfl⟩ := List.mem_iff_getElem.1 hx
    exact h i hi
  rw [this]
set_option maxHeartbeats 4000000 in
theorem indexOwn_spec (B : Option Addr) (n c : Nat) (l : List ByteArray) (w w0 : World) (S : Asn) (m : Mod w w0 S) (r : Reads S B n (texts l)) (hn : n ≤ 1000000) :
    Calls Tryz.prog 43 #[.slice B n c, .func (.func 15) #[] #[]] w fun e w' => e = .returned (.int .i64 (ownIdx l)) ∧ Mod w' w0 S := by
  have hlen : l.length = n := by have := reads_len m r; simpa [texts] using this
  have R := Lib.hid r
  have Hl := Lib.hid hlen
  obtain ⟨z, hz⟩ : ∃ z, ownIdx l = z := ⟨_, rfl⟩
  rw [hz]
  have Hz := Lib.hid hz
  clear r hz hlen
  go_enter Tryz.func43, Tryz.ntmps43
  go_wp2_with fail
  go_loopg [8] n (fun gk iv wr => ∃ i : Nat, i ≤ n ∧ gk = n - i ∧ iv = .int .i64 (i : Int) ∧ Hid (∀ j (_ : j < l.length), j < i → ownB l[j] = false) ∧ Mod wr w0 S)
  case atStart => exact ⟨0, Nat.zero_le _, rfl, rfl, (fun j _ hj => by omega), m⟩
  case round =>
    obtain ⟨i, hi, hgk, rfl, Hall, m1⟩ := hrel
    by_cases hlt : i < n
    · have hii : (i : Int) < (n : Int) := by omega
      have hil : i < l.length := by rw [Hl.out]; exact hlt
      obtain ⟨b, o, rfl, hcell⟩ := reads_text m1 R.out (by omega)
      have hc := hcell i hil
      have HF := Lib.hid (fun (u : World) (mu : Mod u w0 S) => mOpen1_spec l[i] u w0 S mu)
      clear hcell
      cases hpp : ownB l[i] with
      | false =>
        rw [hpp] at HF
        have Hnext : Hid (∀ j (_ : j < l.length), j < i + 1 → ownB l[j] = false) := fun j hj hji => by
          by_cases e : j = i
          · subst e; exact hpp
          · exact Hall.out j hj (by omega)
        clear hpp
        generalize l[i] = f at *
        go_wp2_with (go_at_call 15; refine (HF.out _ m1).mono ?_; rintro e w1 ⟨rfl, m2⟩)
        go_roundg (n - (i + 1))
        case measure => omega
        case rel => exact ⟨i + 1, hlt, rfl, by go_num, Hnext, m2⟩
      | true =>
        rw [hpp] at HF
        have Hend : Hid (z = (i : Int)) := by show _ = _; rw [← Hz.out]; exact ownIdx_at hil Hall.out hpp
        clear hpp
        generalize l[i] = f at *
        go_wp2_with (go_at_call 15; refine (HF.out _ m1).mono ?_; rintro e w1 ⟨rfl, m2⟩)
        (try rw [Exit.noGoto_ret])
        go_ret
        exact ⟨by rw [Hend.out]; rfl, m2⟩
    · have hii : ¬ (i : Int) < (n : Int) := by omega
      have Hend : Hid (z = -1) := by
        show _ = _
        rw [← Hz.out]
        exact ownIdx_none fun j hj => Hall.out j hj (by have := Hl.out; omega)
      go_wp2_with fail
      go_ret
      exact ⟨by rw [Hend.out]; rfl, m1⟩
/-- The first own name, or none. -/
def firstOwn (l : List ByteArray) : ByteArray := match l.findIdx? ownB with | some i => l.getD i ⟨#[]⟩ | none => ⟨#[]⟩
set_option maxHeartbeats 4000000 in
theorem mFirst_spec (B : Option Addr) (n c : Nat) (l : List ByteArray) (w w0 : World) (S : Asn) (m : Mod w w0 S) (r : Reads S B n (texts l)) (hn : n ≤ 1000000) :
    Calls Tryz.prog 17 #[.slice B n c, .func (.func 15) #[] #[]] w fun e w' => e = .returned (.string (firstOwn l)) ∧ Mod w' w0 S := by
  have hlen : l.length = n := by have := reads_len m r; simpa [texts] using this
  have HI := Lib.hid (fun (u : World) (mu : Mod u w0 S) => indexOwn_spec B n c l u w0 S mu r hn)
  unfold firstOwn
  unfold ownIdx at HI
  cases hx : l.findIdx? ownB with
  | none =>
    rw [hx] at HI
    clear r hx hlen
    go_enter Tryz.func17, Tryz.ntmps17
    go_wp2_with (go_at_call 43; refine (HI.out _ m).mono ?_; rintro e w1 ⟨rfl, m1⟩)
    go_ret
    exact ⟨rfl, m1⟩
  | some i =>
    rw [hx] at HI
    have hil : i < l.length := by
      rw [List.findIdx?_eq_some_iff_getElem] at hx
      exact hx.1
    have hin : (i : Int) < (n : Int) := by omega
    have h0 : (0 : Int) ≤ (i : Int) := by omega
    have HG : Hid (l.getD i ⟨#[]⟩ = l[i]) := by show _ = _; rw [List.getD_eq_getElem?_getD, List.getElem?_eq_getElem hil]; rfl
    obtain ⟨b, o, rfl, _⟩ := reads_text m r (by omega)
    have RR := Lib.hid r
    have HIL := Lib.hid hil
    clear r hx hlen
    show Calls Tryz.prog _ _ _ fun e w' => e = .returned (.string (l.getD i ⟨#[]⟩)) ∧ _
    rw [HG.out]
    clear HG
    generalize hs : l[i] = s at *
    have HS := Lib.hid hs
    clear hs hil
    go_enter Tryz.func17, Tryz.ntmps17
    go_wp2_with fail
    refine (HI.out _ m).mono ?_
    rintro e w1 ⟨rfl, m1⟩
    obtain ⟨b2, o2, hb, hcell⟩ := reads_text m1 RR.out (by omega)
    injection hb with hb
    injection hb with hb1 hb2
    subst hb1 hb2
    have hc := (hcell i HIL.out).trans (congrArg (fun z => some (Value.string z)) HS.out)
    clear hcell
    go_wp2_with fail
    go_ret
    exact ⟨rfl, m1⟩
def nX : ByteArray := ⟨#[120]⟩
theorem ok_X : nameOk nX = true := name_ok_of (l := [120]) (by decide) (by decide) (by decide)
/-- What Open leaves of a disk without names. -/
def NewOut (p n : Nat) (w0 : World) (F : Asn) (e : Ending) (w' : World) : Prop :=
  (∃ (mp jj : Nat) (D' : DiskSt), e = .returned (.tuple #[ptr mp, .int .i64 0]) ∧ MInv D' 1 [] noKnow ∧ D'.size = n ∧ Mod w' w0 (manS mp p jj 1 0 none 0 noKnow D' (journal [] (recsB [])).length F)) ∨
  (n < 4096 ∧ e = .returned (.tuple #[.pointer none, .int .i64 6]) ∧ ∃ D', Mod w' w0 (diskA p D' * F))
theorem list_new (n : Nat) : listOf (newDisk n) = [] := by simp [listOf, newDisk]
set_option maxRecDepth 8000 in
set_option maxHeartbeats 16000000 in
theorem mOpen_new (p n : Nat) (w w0 : World) (F : Asn) (m : Mod w w0 (diskA p (newDisk n) * F)) (tab : TabIn F) : Calls Tryz.prog 7 #[ptr p] w (NewOut p n w0 F) := by
  have HS := Lib.hid (size_none p (newDisk n) nX w w0 _ F m ⟨rfl⟩ (by decide) ok_X rfl)
  have HL := Lib.hid (fun (u : World) (mu : Mod u w0 (diskA p (newDisk n) * F)) => list_spec p (newDisk n) u w0 _ F mu ⟨rfl⟩)
  rw [list_new] at HL
  have T := Lib.hid tab
  clear tab
  go_enter Tryz.func7, Tryz.ntmps7
  have flag := True.intro
  go_wp2_with first
    | (go_at_call 13; clear flag; refine HS.out.mono ?_; rintro e w1 ⟨rfl, m1⟩)
  go_wp2_with (go_at_call 14; refine (HL.out _ m1).mono ?_; rintro e w2 ⟨B, c, rfl, m2⟩)
  have m3 : Mod (w2.alloc (.cells #[ptr p, .pointer none, .int .u32 0, .int .i64 0, .slice none 0 0, .slice none 0 0, .slice none 0 0, .int .u32 0, .int .u32 0, .int .u64 0, .bool true] 59)) w0 (diskA p (newDisk n) * (mfA w2.heap.size p (.pointer none) 0 0 (.slice none 0 0) (0, 0, 0) * F)) :=
    Mod.drop (A := rowA 9 1 (.slice B 0 c) 0 []) (m := Mod.to (m := Mod.alloc (m := m2) (.cells #[ptr p, .pointer none, .int .u32 0, .int .i64 0, .slice none 0 0, .slice none 0 0, .slice none 0 0, .int .u32 0, .int .u32 0, .int .u64 0, .bool true] 59)) (by unfold mfA; simp only [List.map_nil, List.length_nil]; ac_rfl))
  have e0 : firstOwn [] = ⟨#[]⟩ := rfl
  have HFI := Lib.hid (fun (u : World) (S : Asn) (mu : Mod u w0 S) => mFirst_spec B 0 c [] u w0 S mu (Reads.none_of B) (by omega))
  rw [e0] at HFI
  clear m1 m2 HS HL e0
  generalize w2.heap.size = mp at *
  generalize w2.alloc (.cells #[ptr p, .pointer none, .int .u32 0, .int .i64 0, .slice none 0 0, .slice none 0 0, .slice none 0 0, .int .u32 0, .int .u32 0, .int .u64 0, .bool true] 59) = w3 at *
  refine (HFI.out _ _ m3).mono ?_
  rintro e w4 ⟨rfl, m4⟩
  clear m3 HFI
  have rN : ReadsRecs F none 0 [] := ⟨rfl, [], rfl, reads_nil, fun i h => absurd h (by simp)⟩
  go_wp2_with fail
  refine (mBegin_spec mp p (.pointer none) 0 0 (.slice none 0 0) (0, 0, 0) (newDisk n) none 0 0 [] _ w0 F m4 rN T.out (by decide) rfl rfl (by simp [newDisk]) (by omega)).mono ?_
  rintro e w5 (⟨rfl, _, jj, g1, g2, q1, q2, q3⟩ | ⟨rfl, hnf, D', _, _, _, q4⟩)
  · go_wp2_with fail
    go_ret2
    refine .inl ⟨mp, jj, clearD (begD (newDisk n) (mname 1) (journal [] []) g1 g2 7) (mname 1), rfl, ?_, rfl, ?_⟩
    · obtain ⟨b1, _, b3⟩ := begun_at (D := newDisk n) (num := 1) (rs := []) q1 q2
      have ho := only_begun (D := newDisk n) (by simp [newDisk]) b3
      exact ⟨b1, rfl, noKnow_ok, by simp, by simp, by simp, ho, ho⟩
    · exact Mod.to (m := row_nil (e := 44) (size := 4) q3) (by unfold manS kfA MKnow.nums noKnow; simp only [List.length_nil, List.flatMap_nil, recsB, List.map_nil]; ac_rfl)
  · have HCL := Lib.hid (clear_spec mp p (.pointer none) 0 0 (.slice none 0 0) (0, 0, 0) D' ⟨#[]⟩ w5 w0 F q4)
    have hn : n < 4096 := by
      rcases Nat.lt_or_ge n 4096 with h | h
      · exact h
      · refine absurd ⟨by simp, by simp [journal], ?_⟩ hnf
        have := name_small (n := 0 + 1) (by decide)
        simp only [journal, List.foldl_nil, List.length_nil, leftOf, newDisk, total]
        omega
    go_wp2_with (go_at_call 19; refine HCL.out.mono ?_; rintro e w6 ⟨rfl, m6⟩)
    go_ret2
    exact .inr ⟨hn, rfl, clearD D' ⟨#[]⟩, Mod.drop (A := mfA mp p (.pointer none) 0 0 (.slice none 0 0) (0, 0, 0)) (m := Mod.to (m := m6) (sep_left_comm _ _ _))⟩
end Go.Proofs.YtmhlebpchllpbaaGreatDoor
namespace Go.Proofs.YtmhlebpchllpbaaGreatDoor
open Go.RowKit Go.Sl
theorem mf_set12 {mp p num many : Nat} {j fs : Value} {k : Nat × Nat × Nat} {w w0 : World} {R : Asn} (j' : Value) (num' : Nat) (m : Mod w w0 (mfA mp p j num many fs k * R)) :
    Mod ((w.setCell ⟨mp, 1, none⟩ j').setCell ⟨mp, 2, none⟩ (.int .u32 (num' : Int))) w0 (mfA mp p j' num' many fs k * R) := by
  unfold mfA at m
  have m1 := Mod.setCells (m := m) (g := mp) (i := 1) j' (t := ⟨rfl⟩)
  exact Mod.setCells (m := m1) (g := mp) (i := 2) (.int .u32 (num' : Int)) (t := ⟨rfl⟩)
theorem reads_editRows {L : EditL} {x : EditV} (hx : EditOk x) (hA : x.added.length ≤ L.aC) (hR : x.removed.length ≤ L.rC) (hA2 : x.added.length ≤ 1100000) (hR2 : x.removed.length ≤ 1100000) : ReadsEdit (editRows L x) L x := by
  unfold editRows
  refine ⟨⟨rfl, reads_lift (S := rowA 44 4 (.slice L.aA x.added.length L.aC) x.added.length (x.added.flatMap FileV.cells)) inferInstance (reads_rown (by decide))⟩, ⟨rfl, inferInstance⟩, hx.nums, hx.nums2, hA2, hR2, hx.journal, hx.next, hx.seq, hA, hR⟩
theorem fold_next {xs : List EditV} {z zi : MKnow} (h : foldK noKnow xs = some z) {i : Nat} (hi : i < xs.length) (hz : foldK noKnow (xs.take i) = some zi) : ∃ zj, foldK noKnow (xs.take (i + 1)) = some zj ∧ doK zi xs[i] = some zj := by
  obtain ⟨zj, hj⟩ := foldK_take h (i + 1)
  refine ⟨zj, hj, ?_⟩
  rw [List.take_succ_eq_append_getElem hi, foldK_snoc, hz] at hj
  exact hj
theorem fold_len : ∀ (xs : List EditV) (k z : MKnow), foldK k xs = some z → z.files.length ≤ k.files.length + (recsB xs).flatten.length
  | [], k, z, h => by simp only [foldK, Option.some.injEq] at h; subst h; simp
  | x :: xs, k, z, h => by
    simp only [foldK] at h
    cases hd : doK k x with
    | none => rw [hd] at h; cases h
    | some k' =>
      rw [hd] at h
      have h1 := fold_len xs k' z h
      have h2 : k'.files.length ≤ k.files.length + x.added.length := by
        unfold doK at hd
        obtain ⟨l, hl, rfl⟩ := Option.map_eq_some_iff.1 hd
        exact doE_len hl
      have h3 : x.added.length ≤ (editB x).length := by
        unfold editB
        simp only [List.length_append]
        have : x.added.length ≤ (x.added.flatMap fileB).length := by
          generalize x.added = l
          induction l with
          | nil => simp
          | cons f l ih =>
            rw [List.flatMap_cons, List.length_append, List.length_cons]
            have : 1 ≤ (fileB f).length := by
              unfold fileB
              rw [List.length_append]
              have := vint_pos f.num
              omega
            omega
        omega
      have h4 : (recsB (x :: xs)).flatten.length = (editB x).length + (recsB xs).flatten.length := by simp [recsB]
      omega
theorem MInv.open {D : DiskSt} {num : Nat} {xs : List EditV} {k : MKnow} (h : MInv D num xs k) : MInv (clearD D (mname num)) num xs k := by
  obtain ⟨gm, gj, a1, a2, a3, a4, a5, a6⟩ := h.disk.ex
  have hk1 : keepB (mname num) nM = true := by
    unfold keepB
    have : ¬ mname num = ⟨#[]⟩ := fun e => by
      have h := congrArg ByteArray.size e
      rw [name_size] at h
      exact absurd h (by show 2 + _ ≠ 0; omega)
    simp [this]
  have hk2 : keepB (mname num) (mname num) = true := by unfold keepB; simp
  have b1 : mget (clearD D (mname num)).now nM = some gm := by show mget (List.filter _ _) _ = _; rw [mget_filter, if_pos hk1]; exact a1
  have b2 : mget (clearD D (mname num)).now (mname num) = some gj := by show mget (List.filter _ _) _ = _; rw [mget_filter, if_pos hk2]; exact a2
  have ho : ∀ q ∈ (clearD D (mname num)).now, q ∈ D.now := fun q hq => (List.mem_filter.1 hq).1
  exact ⟨⟨⟨gm, gj, b1, b2, a3, a4, b1, b2⟩, fun q hq => h.disk.own q (ho q hq), fun q hq => h.disk.own q (ho q hq)⟩, h.fold, h.know, h.each, h.head, h.tail, fun q hq => h.only q (ho q hq), fun q hq => h.only q (ho q hq)⟩
theorem fold_small {xs : List EditV} {zi : MKnow} {i : Nat} (hi : i ≤ xs.length) (h : foldK noKnow (xs.take i) = some zi) (hj : (journal [] (recsB xs)).length ≤ 1048576) : zi.files.length ≤ 1048576 := by
  have h1 := fold_len _ _ _ h
  have h2 := journal_ge (recsB (xs.take i)) []
  have e : recsB (xs.take i) = (recsB xs).take i := by simp [recsB, List.map_take]
  have h3 := journal_mono (recsB xs) (show i ≤ (recsB xs).length by simpa [recsB] using hi)
  rw [List.take_length] at h3
  rw [List.length_flatten] at h1
  rw [e] at h1 h2
  have h4 : noKnow.files.length = 0 := rfl
  simp only [List.length_nil] at h2
  omega
end Go.Proofs.YtmhlebpchllpbaaGreatDoor
namespace Go.Proofs.YtmhlebpchllpbaaGreatDoor
open Go.RowKit Go.Sl
attribute [local go_sem] cell_of cellAt_of frozen_of zero_names conv_bs
theorem listOf_texts (D : DiskSt) : (listOf D).map Go.Proofs.encStr = texts ((listOf D).map fun l => ⟨l.toArray⟩) := enc_texts' _
theorem name_in {D : DiskSt} {s : ByteArray} {g : Nat} (h : mget D.now s = some g) : s ∈ (listOf D).map fun l => (⟨l.toArray⟩ : ByteArray) :=
  List.mem_map.2 ⟨s.data.toList, mem_listOf.2 ⟨_, mem_of_mget h, rfl⟩, rfl⟩
theorem first_own {l : List ByteArray} {s : ByteArray} (h : s ∈ l) (ho : ownB s = true) : ownB (firstOwn l) = true := by
  unfold firstOwn
  cases hx : l.findIdx? ownB with
  | none =>
    rw [List.findIdx?_eq_none_iff] at hx
    rw [hx s h] at ho; cases ho
  | some i =>
    rw [List.findIdx?_eq_some_iff_getElem] at hx
    obtain ⟨hi, hp, _⟩ := hx
    show ownB (l.getD i _) = true
    rw [List.getD_eq_getElem?_getD, List.getElem?_eq_getElem hi]
    exact hp
theorem own_ne {s : ByteArray} (h : ownB s = true) : s.toList.isEmpty = false := by
  cases hs : s.toList.isEmpty with
  | false => rfl
  | true =>
    have e : s = ⟨#[]⟩ := toList_inj ((List.isEmpty_iff.1 hs).trans toList_no.symm)
    rw [e] at h
    exact absurd h (by decide)
def OldOut (p num : Nat) (k : MKnow) (D : DiskSt) (xs : List EditV) (w0 : World) (F : Asn) (e : Ending) (w' : World) : Prop :=
  ∃ (mp jj : Nat) (A : Option Addr) (c : Nat) (D' : DiskSt), e = .returned (.tuple #[ptr mp, .int .i64 0]) ∧ MInv D' num xs k ∧ D'.size = D.size ∧ k.files.length ≤ c ∧ Mod w' w0 (manS mp p jj num xs.length A c k D' (journal [] (recsB xs)).length F)
set_option maxRecDepth 8000 in
set_option maxHeartbeats 16000000 in
theorem mOpen_old (p num : Nat) (k : MKnow) (D : DiskSt) (xs : List EditV) (w w0 : World) (F : Asn) (m : Mod w w0 (diskA p D * F)) (h : MInv D num xs k) (tab : TabIn F) (hnum : num < 4294967296) : Calls Tryz.prog 7 #[ptr p] w (OldOut p num k D xs w0 F) := by
  have hok := okOf (F := F) m ⟨rfl⟩
  obtain ⟨gm, gj, a1, a2, a3, a4, a5, a6⟩ := h.disk.ex
  have hX : mget D.now nX = none := by
    cases hg : mget D.now nX with
    | none => rfl
    | some g => have := h.only _ (mem_of_mget hg); exact absurd this (by show ¬ ownB nX = true; decide)
  obtain ⟨names, hnames⟩ : ∃ names, names = (listOf D).map fun l => (⟨l.toArray⟩ : ByteArray) := ⟨_, rfl⟩
  obtain ⟨nm, hnm⟩ : ∃ nm, mname num = nm := ⟨_, rfl⟩
  obtain ⟨b, hb⟩ : ∃ b, nm.data.toList = b := ⟨_, rfl⟩
  have hbs : nm.size = b.length := by rw [← hb]; exact Array.length_toList.symm
  have hin : nm ∈ names := by rw [hnames, ← hnm]; exact name_in a2
  have hfo := own_ne (first_own hin (by rw [← hnm]; exact own_name num))
  have hbn : (⟨b.toArray⟩ : ByteArray) = nm := data_inj (by rw [hb])
  have hnmok : nameOk nm = true := by rw [← hnm]; exact ok_name hnum
  have hbl : b.length ≤ 12 := by rw [← hbs, ← hnm]; exact name_small hnum
  have hnlt : nm.size ≤ 9223372036854775807 := by omega
  rw [hnm] at a2 a3
  rw [hb, hbs] at a3
  obtain ⟨ds, hds⟩ : ∃ ds, (⟨(Lib.decDigits num).toArray⟩ : ByteArray) = ds := ⟨_, rfl⟩
  have htp : (⟨(Lib.trimPrefix nm.data.toList (⟨#[109, 45]⟩ : ByteArray).data.toList).toArray⟩ : ByteArray) = ds := by
    rw [← hnm, name_data, ← hds]; rfl
  have hcat : (⟨#[109, 45]⟩ : ByteArray) ++ ds = nm := by rw [← hds, ← hnm]; exact name_cat num
  have hdl := digits_len hnum
  have hdsz : ds.size ≤ 10 := by rw [← hds]; show (Lib.decDigits num).toArray.size ≤ 10; rw [List.size_toArray]; exact hdl
  have hpar : Lib.parseUintB 32 ds.data.toList = .ok num := by rw [← hds]; exact parse32_digits num hnum
  obtain ⟨n, hn⟩ : ∃ n, (listOf D).length = n := ⟨_, rfl⟩
  have hn64 : n ≤ 64 := by rw [← hn, length_listOf]; exact hok.many
  have HSX := Lib.hid (size_none p D nX w w0 _ F m ⟨rfl⟩ (by decide) ok_X hX)
  have HL := Lib.hid (fun (u : World) (mu : Mod u w0 (diskA p D * F)) => list_spec p D u w0 _ F mu ⟨rfl⟩)
  rw [hn, listOf_texts, ← hnames] at HL
  have HSM := Lib.hid (fun (u : World) (X : Asn) (mu : Mod u w0 (diskA p D * X)) => size_some p D nM gm _ u w0 _ X mu ⟨rfl⟩ (by decide) ok_M a1 a3)
  have HRM := Lib.hid (fun (u : World) (X : Asn) (mu : Mod u w0 (diskA p D * X)) => read_ok p D nM u w0 _ X mu ⟨rfl⟩ (by decide) 0 b.length gm _ ok_M a1 a3 (by simp))
  simp only [List.drop_zero, List.take_length] at HRM
  have HJO := Lib.hid (fun (u : World) (X : Asn) (mu : Mod u w0 (diskA p D * X)) => jopen_own p D nm u w0 X mu hnlt gj _ hnmok a2 a4 (h.jlen hok))
  rw [readAll_journal] at HJO
  have HTP := Lib.hid (fun (u : World) (S : Asn) (mu : Mod u w0 S) => trimPrefix_spec nm ⟨#[109, 45]⟩ u w0 S mu)
  rw [htp] at HTP
  have HPU := Lib.hid (fun (u : World) (S : Asn) (mu : Mod u w0 S) => parseUint_spec ds num (by omega) hpar u w0 S mu)
  have HFU := Lib.hid (fun (u : World) (S : Asn) (mu : Mod u w0 S) (t : TabIn S) => fmtUint_spec num (by omega) u w0 S mu t)
  rw [hds] at HFU
  have HCN := Lib.hid (fun (u : World) (S : Asn) (B : Option Addr) (c : Nat) (mu : Mod u w0 S) (r : Reads S B n (texts names)) => mContains_spec B n c names nm u w0 S mu r (by omega))
  rw [(Lib.containsS_iff names nm).2 hin] at HCN
  have T := Lib.hid tab
  have HI := Lib.hid h
  have HNM := Lib.hid hnm
  have HJL := Lib.hid (h.jlen hok)
  have hcs : ¬ 9223372036854775807 < 2 + ds.size := by omega
  clear h tab a1 a2 a3 a4 a5 a6 hok hX hnames hnm hb hbs hin hds htp hpar hn hdl
  go_enter Tryz.func7, Tryz.ntmps7
  have flag := True.intro
  go_wp2_with first
    | (go_at_call 13; clear flag; refine HSX.out.mono ?_; rintro e w1 ⟨rfl, m1⟩)
  go_wp2_with (go_at_call 14; refine (HL.out _ m1).mono ?_; rintro e w2 ⟨B, c, rfl, m2⟩)
  have m3 : Mod (w2.alloc (.cells #[ptr p, .pointer none, .int .u32 0, .int .i64 0, .slice none 0 0, .slice none 0 0, .slice none 0 0, .int .u32 0, .int .u32 0, .int .u64 0, .bool true] 59)) w0 (diskA p D * (mfA w2.heap.size p (.pointer none) 0 0 (.slice none 0 0) (0, 0, 0) * (rowA 9 1 (.slice B n c) n (texts names) * F))) :=
    Mod.to (m := Mod.alloc (m := m2) (.cells #[ptr p, .pointer none, .int .u32 0, .int .i64 0, .slice none 0 0, .slice none 0 0, .slice none 0 0, .int .u32 0, .int .u32 0, .int .u64 0, .bool true] 59)) (by unfold mfA; ac_rfl)
  clear m1 m2
  generalize w2.heap.size = mp at *
  generalize w2.alloc (.cells #[ptr p, .pointer none, .int .u32 0, .int .i64 0, .slice none 0 0, .slice none 0 0, .slice none 0 0, .int .u32 0, .int .u32 0, .int .u64 0, .bool true] 59) = w3 at *
  refine (mFirst_spec B n c names w3 w0 _ m3 inferInstance (by omega)).mono ?_
  rintro e w4 ⟨rfl, m4⟩
  clear m3
  go_wp2_with (go_at_call 13; refine (HSM.out _ _ m4).mono ?_; rintro e w5 ⟨rfl, m5⟩)
  refine (HRM.out _ _ m5).mono ?_
  rintro e w6 ⟨B6, c6, rfl, m6⟩
  clear m4 m5
  go_wp2_with first
    | (go_at_call 22; refine (HTP.out _ _ m6).mono ?_; rintro e w7 ⟨rfl, m7⟩)
    | (go_at_call 21; refine (HPU.out _ _ m7).mono ?_; rintro e w8 ⟨rfl, m8⟩)
  clear m6 m7
  obtain ⟨SS, hSS, mSS⟩ : ∃ SS, SS = _ ∧ Mod w8 w0 SS := ⟨_, rfl, m8⟩
  have rSS : Reads SS B6 b.length (u8s b) := by rw [hSS]; infer_instance
  have rNN : Reads SS B n (texts names) := by rw [hSS]; exact reads_lift (S := rowA 9 1 (.slice B n c) n (texts names)) inferInstance inferInstance
  have tSS : TabIn SS := T.out.lift (by rw [hSS]; infer_instance)
  have HF2 := Lib.hid (fun (u : World) (mu : Mod u w0 SS) => HFU.out u SS mu tSS)
  have HC2 := Lib.hid (fun (u : World) (mu : Mod u w0 SS) => HCN.out u SS B c mu rNN)
  have HSS := Lib.hid hSS
  clear hSS rNN tSS m8
  have := Held.some mSS
  refine wp_region_mod mSS (by kernel_rfl) (by kernel_rfl) ?_
  repeat (go_big_quiet_step (first | (go_at_call 23; refine quiet_call (HF2.out _ ?_); exact inferInstance) | (go_at_call 24; refine quiet_call (HC2.out _ ?_); exact inferInstance)))
  refine wpQuiet_nil ?_
  rintro w9 ⟨s, rfl⟩
  have m9 := Mod.to (m := s.mod) HSS.out
  clear mSS rSS HF2 HC2 HSS this
  generalize s.world = w9 at *
  go_wp2_with fail
  have m10 : Mod w9 w0 (diskA p D * (mfA mp p (.pointer none) 0 0 (.slice none 0 0) (0, 0, 0) * (rowA 5 1 (.slice B6 b.length c6) b.length (u8s b) * (rowA 9 1 (.slice B n c) n (texts names) * F)))) := Mod.to (m := m9) (by ac_rfl)
  refine (HJO.out _ _ m10).mono ?_
  rintro e w11 ⟨jj, AR, RO, rfl, hro, m11⟩
  have hrr := hro.reads
  have hln : (recsB xs).length = xs.length := by simp [recsB]
  rw [hln] at hrr
  simp only [hln]
  have HRR := Lib.hid hrr
  clear m9 m10 hro hrr hln
  obtain ⟨N, hN⟩ : ∃ N, xs.length = N := ⟨_, rfl⟩
  rw [hN] at HRR
  simp only [hN]
  obtain ⟨en, hen⟩ : ∃ en, (journal [] (recsB xs)).length = en := ⟨_, rfl⟩
  simp only [hen] at m11
  have Hen := Lib.hid hen
  have HN2 := Lib.hid hN
  clear hen hN
  obtain ⟨G, hG⟩ : ∃ G, G = RO * (rowA 5 1 (.slice B6 b.length c6) b.length (u8s b) * (rowA 9 1 (.slice B n c) n (texts names) * F)) := ⟨_, rfl⟩
  have m12 : Mod w11 w0 (mfA mp p (.pointer none) 0 0 (.slice none 0 0) (0, 0, 0) * (diskA p D * (jourA jj p nm en * G))) := Mod.to (m := m11) (by rw [hG]; ac_rfl)
  have rG : ReadsRecs G AR N (recsB xs) := HRR.out.lift (by rw [hG]; infer_instance)
  have rBG : Reads G B6 b.length (u8s b) := by rw [hG]; exact reads_lift (S := rowA 5 1 (.slice B6 b.length c6) b.length (u8s b)) inferInstance inferInstance
  have sG : Sub G F := by rw [hG]; infer_instance
  have RG := Lib.hid rG
  have hw1 : IntKind.u32.wrap (num : Int) = (num : Int) := by rw [IntKind.wrap_u32]; omega
  have m13 := mf_set12 (ptr jj) num m12
  have m13' : Mod ((w11.setCell ⟨mp, 1, none⟩ (ptr jj)).setCell ⟨mp, 2, none⟩ (.int .u32 (num : Int))) w0 (manS mp p jj num 0 none 0 noKnow D en G) :=
    Mod.to (m := row_nil (e := 44) (size := 4) m13) (by unfold manS kfA MKnow.nums noKnow; rw [HNM.out]; simp only [List.length_nil, List.flatMap_nil]; ac_rfl)
  have HM13 := Lib.hid m13'
  clear hG rG m11 m13 m13' HRR HJO HSM HRM HTP HPU HFU HCN HL HSX
  have m12' := m12
  unfold mfA at m12'
  clear m12
  go_wp2_with fail
  clear m12'
  have m14 := HM13.out
  clear HM13
  have hNb : (N : Int) < 2000000 := by
    have h1 := journal_count (recsB xs) []
    have h2 := HJL.out
    have h3 : (recsB xs).length = N := by rw [← HN2.out]; simp [recsB]
    simp only [List.length_nil] at h1
    omega
  go_loopg [2, 3, 103] N (fun gk mv ev iv wr => ∃ (i : Nat) (A : Option Addr) (cc : Nat) (zi : MKnow), i ≤ N ∧ gk = N - i ∧ iv = .int .i64 (i : Int) ∧ mv = ptr mp ∧ ev = .int .i64 0 ∧ Hid (foldK noKnow (xs.take i) = some zi) ∧ zi.files.length ≤ cc ∧ Mod wr w0 (manS mp p jj num i A cc zi D en G))
  case atStart => exact ⟨0, none, 0, noKnow, Nat.zero_le _, rfl, rfl, rfl, rfl, rfl, Nat.zero_le _, m14⟩
  case round =>
    clear m14
    obtain ⟨i, A, cc, zi, hiN, hgk, rfl, rfl, rfl, HZ, hcc, m15⟩ := hrel
    by_cases hlt : i < N
    · have hii : (i : Int) < (N : Int) := by omega
      have m15' := m15
      unfold manS mfA at m15'
      obtain ⟨b1, o1, hAR, hil, Br, cr, hxA, rr, hcr⟩ := reads_rec_all (Mod.sub G (m := m15')) RG.out hlt
      subst hAR
      have hx : wr.cell? ⟨b1, o1 + i, none⟩ = some (.slice Br (recsB xs)[i].length cr) := hxA ⟨wr, Mod.sub G (m := m15')⟩
      have hix : i < xs.length := by rw [HN2.out]; exact hlt
      have hge : (recsB xs)[i] = editB xs[i] := by simp [recsB]
      rw [hge] at hx rr hcr
      obtain ⟨zj, hzj, hdj⟩ := fold_next HI.out.fold hix HZ.out
      have hxo := HI.out.each _ (List.getElem_mem hix)
      have hxl := HI.out.head _ (List.getElem_mem hix)
      have hsm := fold_small (by rw [HN2.out]; omega) HZ.out HJL.out
      have HG := Lib.hid (eGet_spec Br (editB xs[i]).length cr (editB xs[i]) wr w0 _ m15 (reads_lift inferInstance rr) (by omega) hcr)
      rw [getE_editB hxo] at HG
      have HZJ := Lib.hid hzj
      clear hxA rr hge hxl hcr hzj
      generalize xs[i] = x at *
      generalize (editB x).length = zl at *
      have HXO := Lib.hid hxo
      clear hxo hix hil
      go_wp2_with fail
      refine HG.out.mono ?_
      rintro e w16 ⟨⟨aA, aC, rA, rC⟩, rfl, l1, l2, l3, l4, m16⟩
      have HRE := Lib.hid (reads_editRows (L := ⟨aA, aC, rA, rC⟩) HXO.out l1 l2 l3 l4)
      clear HG m15 m15'
      unfold editCells
      simp only
      obtain ⟨ER, hER⟩ : ∃ ER, ER = editRows ⟨aA, aC, rA, rC⟩ x := ⟨_, rfl⟩
      rw [← hER] at m16 HRE
      clear hER
      have m16' := m16
      unfold manS mfA at m16'
      go_wp2_with fail
      have m17 : Mod (w16.alloc (.cells #[.slice aA x.added.length aC, .slice rA x.removed.length rC, .int .u32 (x.journal : Int), .int .u32 (x.next : Int), .int .u64 (x.seq : Int)] 39)) w0 (manS mp p jj num i A cc zi D en (blk w16.heap.size (.cells #[.slice aA x.added.length aC, .slice rA x.removed.length rC, .int .u32 (x.journal : Int), .int .u32 (x.next : Int), .int .u64 (x.seq : Int)] 39 (0, 0)) * (ER * G))) :=
        Mod.to (m := Mod.alloc (m := m16) (.cells #[.slice aA x.added.length aC, .slice rA x.removed.length rC, .int .u32 (x.journal : Int), .int .u32 (x.next : Int), .int .u64 (x.seq : Int)] 39)) (by unfold manS; ac_rfl)
      refine (does_at mp p jj num i A cc zi D _ w0 _ en ⟨aA, aC, rA, rC⟩ x zj m17 (HRE.out.lift inferInstance) hdj (by omega)).mono ?_
      rintro e w18 ⟨rfl, A', c', hc', m18⟩
      clear m16 m16' m17
      have m18' := m18
      unfold manS mfA at m18'
      go_wp2_with fail
      go_roundg (N - (i + 1))
      case measure => omega
      case rel =>
        refine ⟨i + 1, A', c', zj, hlt, rfl, by go_num, rfl, rfl, HZJ, hc', ?_⟩
        have m19 := manS_many (i + 1) m18
        rw [show ((i + 1 : Nat) : Int) = (i : Int) + 1 by omega] at m19
        exact manS_weak m19 inferInstance
    · have hii : ¬ (i : Int) < (N : Int) := by omega
      have hin : i = N := by omega
      subst hin
      have hzk : zi = k := by
        have h1 := HZ.out
        rw [List.take_of_length_le (by rw [HN2.out]; omega), HI.out.fold] at h1
        exact (Option.some.inj h1).symm
      subst hzk
      have HCL := Lib.hid (clear_spec mp p (ptr jj) num i _ zi.nums D nm wr w0 _ m15)
      have hcv : (convert 63 9 (.slice B6 b.length c6)).run Tryz.prog wr = .ok (.string nm) wr := by
        have h1 := conv_bs (w := wr) (c := c6) (m := m15) (r := reads_lift (inferInstance : Sub _ G) rBG)
        rw [hbn] at h1
        exact h1
      clear rBG m15
      go_wp2_with (go_at_call 19; refine HCL.out.mono ?_; rintro e w16 ⟨rfl, m16⟩)
      go_ret2
      refine ⟨mp, jj, A, cc, clearD D nm, rfl, by rw [← HNM.out]; exact HI.out.open, rfl, hcc, ?_⟩
      rw [HN2.out, Hen.out]
      exact manS_weak m16 sG
end Go.Proofs.YtmhlebpchllpbaaGreatDoor
namespace Go.Proofs.YtmhlebpchllpbaaGreatDoor
open Go.RowKit Go.Sl
attribute [local go_sem] cell_of cellAt_of frozen_of zero_names
set_option maxHeartbeats 4000000 in
theorem mAdd_nil (a b : Value) (x y z : Value) (w w0 : World) (S : Asn) (m : Mod w w0 S) : Calls Tryz.prog 9 #[.pointer none, .agg #[a, b, x, y, z]] w fun e w' => e = .returned (.int .i64 2) ∧ Mod w' w0 S := by
  go_enter Tryz.func9, Tryz.ntmps9
  go_wp2_with fail
  go_ret
  exact ⟨rfl, Mod.sub S (m := Mod.alloc (m := m) _)⟩
set_option maxHeartbeats 4000000 in
theorem mOpen_nil (w w0 : World) (S : Asn) (m : Mod w w0 S) : Calls Tryz.prog 7 #[.pointer none] w fun e w' => e = .returned (.tuple #[.pointer none, .int .i64 2]) ∧ Mod w' w0 S := by
  go_enter Tryz.func7, Tryz.ntmps7
  go_wp2
  go_ret2
  exact ⟨rfl, Mod.sub S⟩
set_option maxHeartbeats 1000000 in
theorem mNext_spec (mp p : Nat) (j : Value) (num many : Nat) (fs : Value) (k : Nat × Nat × Nat) (w w0 : World) (F : Asn) (m : Mod w w0 (mfA mp p j num many fs k * F)) : Calls Tryz.prog 12 #[ptr mp] w fun e w' => e = .returned (.int .u32 (k.2.1 : Int)) ∧ Mod w' w0 (mfA mp p j num many fs k * F) := by
  have m0 := m
  unfold mfA at m0
  go_enter Tryz.func12, Tryz.ntmps12
  go_wp2_with fail
  go_ret
  exact ⟨rfl, m⟩
end Go.Proofs.YtmhlebpchllpbaaGreatDoor
