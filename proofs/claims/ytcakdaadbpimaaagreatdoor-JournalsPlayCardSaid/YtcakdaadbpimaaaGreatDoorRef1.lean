/- The walks of the reference's lead and drop: contracts over the small separation logic; the conditions are in each theorem. -/
import Derived.Test.YtcakdaadbpimaaaGreatDoorRef0
import Derived.Test.YtcakdaadbpimaaaGreatDoorBaseG
import Derived.Test.YtcakdaadbpimaaaGreatDoorArgsG
namespace Go.Sl
/-- append of elements that are read onto a row of one's own, however few, at the operation. -/
theorem wpList_append_k {P : Program} {w w0 : World} {F : Asn} {ops : Array Oper} {rest : List Oper} {o : Oper} {a : Act} {Q : Exit → Act → World → Prop} {s x : Operand} {t e size bytes : Nat} [T : RowN P t e size bytes] (hgd : o.guard = none)
    (ho : o.op = .call { callee := .builtin .append, args := #[s, x], argTypes := #[t, t] }) {v : Value} {n : Nat} {xs : List Value} (m : Mod w w0 (rowA e size v n xs * F)) (hs : a.eval s = v)
    {A : Option Addr} {k c : Nat} {news : List Value} (hx : a.eval x = .slice A k c) (r : Reads F A (k * size) news) (h1 : ∀ u ∈ news, u.oneCell' = true) (h63 : n + k ≤ maxLen) (hbytes : (n + k) * bytes ≤ 140737488355328)
    (h : ∀ A' c' w', Mod w' w0 (rowA e size (.slice A' (n + k) c') (n + k) (xs ++ news) * F) → wpList P ops Q rest (a.put o.dst (.slice A' (n + k) c')) w') : wpList P ops Q (o :: rest) a w := by
  rcases Nat.eq_zero_or_pos k with hk | hk
  · subst hk
    have rS : Reads (rowA e size v n xs * F) A (0 * size) news := inferInstance
    have hlen := reads_len m rS
    have hnews : news = [] := List.eq_nil_of_length_eq_zero (by rw [hlen, Nat.zero_mul])
    subst hnews
    obtain ⟨i, z, hi, hz, hsize, hby, hzs, h0⟩ := T.get
    have hown := owns_of_row m
    have hv2 : ∃ A' c', v = .slice A' n c' := by
      rcases hown.2 with ⟨h1, h2⟩ | ⟨g, cap, cur, h1, _⟩
      · exact ⟨none, 0, by rw [h1, h2]⟩
      · exact ⟨_, _, h1⟩
    obtain ⟨A', c', rfl⟩ := hv2
    have hrun : (Builtin.append_ #[t, t] o.type #[.slice A' n c', .slice A 0 c]).run P w = .ok (.slice A' n c') w := by
      rcases hown.2 with ⟨h1, rfl⟩ | ⟨g, cap, cur, h1, _, hh, hnc, _⟩
      · injection h1 with h1 h2 h3
        subst h1 h3
        cases A <;> simp [Builtin.append_, run_underlying T.ht, sizeOf, typeInfo, hi, Builtin.lenOf, Builtin.firstCells, loadCells, loadCellsFrom]
      · injection h1 with h1 h2 h3
        subst h1 h3
        cases A <;> simp [Builtin.append_, run_underlying T.ht, sizeOf, typeInfo, hi, Builtin.lenOf, Builtin.firstCells, loadCells, loadCellsFrom, hnc, storeCells]
    refine wpList_plain hgd fun _ hK => ?_
    unfold Oper.wp execOp
    simp only [ho, resolve, invoke, builtin, Sem.run_bind, Sem.run_pure, Result.andThen_ok, List.map_toArray, List.map_cons, List.map_nil, hs, hx, hrun]
    exact hK _ _ (h A' c' w (by simpa using m))
  · have rS : Reads (rowA e size v n xs * F) A (k * size) news := inferInstance
    obtain ⟨i, z, hi, hz, hsize, hby, hzs, h0⟩ := T.get
    obtain ⟨ad, rfl, _, _⟩ := reads_cell m rS (Nat.mul_pos hk h0)
    exact wpList_append_n hgd ho m hs hx r hk h1 h63 hbytes h
/-- A part of a slice that is read. -/
theorem reads_sliced {S : Asn} {A : Option Addr} {n s : Nat} {xs : List Value} (r : Reads S A (n * s) xs) (l h m : Nat) (hlh : l ≤ h) (hn : h ≤ n) (hm : h ≤ m) : Reads S (if m = l then A else A.map (·.add (l * s))) ((h - l) * s) ((xs.drop (l * s)).take ((h - l) * s)) := by
  have e : l * s + (h - l) * s = h * s := by rw [← Nat.add_mul]; congr 1; omega
  have hle : l * s + (h - l) * s ≤ n * s := by rw [e]; exact Nat.mul_le_mul_right _ hn
  by_cases hml : m = l
  · have : h = l := by omega
    subst this
    rw [if_pos hml, Nat.sub_self, Nat.zero_mul, List.take_zero]
    exact Reads.none_of A
  · rw [if_neg hml]
    exact r.part (l * s) ((h - l) * s) hle
end Go.Sl
namespace Go.Proofs.YtcakdaadbpimaaaGreatDoor
open Go.RowKit Go.Sl
attribute [local go_sem] cell_of frozen_of
instance rowN_rnames : RowN Tryz.prog 103 122 2 24 := ⟨by kernel_rfl, by kernel_rfl⟩
theorem one_nm (l : Dir) : ∀ u ∈ nmCells l, u.oneCell' = true := by
  intro u hu
  obtain ⟨q, _, hq⟩ := List.mem_flatMap.1 hu
  simp only [List.mem_cons, List.not_mem_nil, or_false] at hq
  rcases hq with rfl | rfl <;> rfl
theorem nm_drop : ∀ (l : Dir) (k : Nat), (nmCells l).drop (k * 2) = nmCells (l.drop k)
  | [], k => by simp [nmCells]
  | q :: l, 0 => by simp
  | q :: l, k + 1 => by
    have e : (k + 1) * 2 = k * 2 + 2 := by omega
    rw [e, List.drop_succ_cons, ← nm_drop l k]
    show List.drop (k * 2 + 2) (_ :: _ :: nmCells l) = _
    rfl
theorem nm_take : ∀ (l : Dir) (k : Nat), (nmCells l).take (k * 2) = nmCells (l.take k)
  | [], k => by simp [nmCells]
  | q :: l, 0 => by simp [nmCells]
  | q :: l, k + 1 => by
    have e : (k + 1) * 2 = k * 2 + 2 := by omega
    rw [e, List.take_succ_cons]
    show List.take (k * 2 + 2) (.string q.1 :: ptr q.2 :: nmCells l) = .string q.1 :: ptr q.2 :: nmCells (l.take k)
    rw [← nm_take l k]
    rfl
theorem nm_append (a b : Dir) : nmCells (a ++ b) = nmCells a ++ nmCells b := by simp [nmCells]
set_option maxHeartbeats 4000000 in
theorem rdrop_spec (p : Nat) (M : DiskSt) (k : Nat) (hk : k < M.now.length) (w w0 : World) (F : Asn) (m : Mod w w0 (refA p M * F)) : Calls Tryz.prog 54 #[ptr p, .int .i64 (k : Int)] w fun e w' => e = .returned (.tuple #[]) ∧ Mod w' w0 (refA p { M with now := M.now.take k ++ M.now.drop (k + 1) } * F) := by
  obtain ⟨A, c, B, d, hok, hc, m1⟩ := ref_open m
  have hn := hok.many
  have Hok := Lib.hid hok
  clear hok m
  obtain ⟨n, hnn⟩ : ∃ n, M.now.length = n := ⟨_, rfl⟩
  rw [hnn] at m1 hc hk hn
  have hki : (k : Int) < (n : Int) := by omega
  have hkc : (k : Int) ≤ (c : Int) := by omega
  have r0 : Reads (rowA 122 2 (.slice A n c) n (nmCells M.now)) A (n * 2) (nmCells M.now) := reads_rown (by decide)
  have rA : Reads (rowA 122 2 (.slice A n c) n (nmCells M.now)) A (k * 2) (nmCells (M.now.take k)) := by
    have := r0.pre (k * 2) (by omega)
    rwa [nm_take] at this
  have rB := reads_sliced r0 (k + 1) n c (by omega) (Nat.le_refl _) hc
  rw [nm_drop, List.take_of_length_le (by rw [nmCells_length, List.length_drop, hnn]; exact Nat.le_refl _)] at rB
  obtain ⟨A', hA', rB'⟩ : ∃ A', (if c = k + 1 then A else A.map (·.add ((k + 1) * 2))) = A' ∧ Reads (rowA 122 2 (.slice A n c) n (nmCells M.now)) A' ((n - (k + 1)) * 2) (nmCells (M.now.drop (k + 1))) := ⟨_, rfl, rB⟩
  have RA := Lib.hid rA
  have RB := Lib.hid rB'
  have Hnn := Lib.hid hnn
  have hok2 : DiskOk { M with now := M.now.take k ++ M.now.drop (k + 1) } := sub_ok Hok.out (by
    conv => rhs; rw [← List.take_append_drop k M.now]
    exact (List.Sublist.refl _).append (List.drop_sublist_drop_left _ (Nat.le_succ k)))
  have Hok2 := Lib.hid hok2
  clear r0 rA rB rB' hnn hok2
  have key : ∀ (w2 : World) (A2 : Option Addr) (c2 : Nat), Mod w2 w0 (Go.Sl.blk p (.cells #[.int .i64 (M.size : Int), .slice A2 (k + (n - (k + 1))) c2, .slice B M.sure.length d] 105 (0, 0)) * (rowA 122 2 (.slice A2 (k + (n - (k + 1))) c2) (k + (n - (k + 1))) (nmCells (M.now.take k) ++ nmCells (M.now.drop (k + 1))) *
      (rowA 122 2 (.slice A n c) n (nmCells M.now) * (rowA 122 2 (.slice B M.sure.length d) M.sure.length (nmCells M.sure) * (rfilesA M.files * F))))) → Mod w2 w0 (refA p { M with now := M.now.take k ++ M.now.drop (k + 1) } * F) := by
    intro w2 A2 c2 m3
    have e : k + (n - (k + 1)) = (M.now.take k ++ M.now.drop (k + 1)).length := by rw [List.length_append, List.length_take, List.length_drop, Hnn.out]; omega
    rw [← nm_append, e] at m3
    have m4 : Mod w2 w0 (Go.Sl.blk p (.cells #[.int .i64 (M.size : Int), .slice A2 (M.now.take k ++ M.now.drop (k + 1)).length c2, .slice B M.sure.length d] 105 (0, 0)) * (rowA 122 2 (.slice A2 (M.now.take k ++ M.now.drop (k + 1)).length c2) (M.now.take k ++ M.now.drop (k + 1)).length (nmCells (M.now.take k ++ M.now.drop (k + 1))) *
      (rowA 122 2 (.slice B M.sure.length d) M.sure.length (nmCells M.sure) * (rfilesA M.files * F)))) := Mod.drop (A := rowA 122 2 (.slice A n c) n (nmCells M.now)) (m := Mod.to (m := m3) (by ac_rfl))
    exact ref_shut { M with now := M.now.take k ++ M.now.drop (k + 1) } m4 Hok2.out
  have Key := Lib.hid key
  clear key
  have hkn1 : (k : Int) + 1 ≤ (n : Int) := by omega
  by_cases hck : c = k + 1
  all_goals
    simp only [hck, if_true, if_false] at hA'
    subst hA'
    go_enter Tryz.func54, Tryz.ntmps54
    go_wp2_with first
      | (at_builtin; refine wpList_append_k (v := .slice A1 k c1) (n := k) (k := n - (k + 1)) (t := 103) rfl rfl m2 rfl rfl (reads_lift inferInstance RB.out) (one_nm _) (by unfold maxLen; omega) (by omega) ?_; intro A2 c2 w2 m3)
      | (at_builtin; refine wpList_append_k (v := .slice none 0 0) (n := 0) (xs := []) (k := k) (t := 103) rfl rfl (row_none_n m1) rfl rfl (reads_lift inferInstance RA.out) (one_nm _) (by unfold maxLen; omega) (by omega) ?_; intro A1 c1 w1 m2; simp only [Nat.zero_add, List.nil_append] at m2 ⊢)
    go_end0
    refine ⟨rfl, Key.out _ A2 c2 ?_⟩
    have m4 : Mod (w2.setCell ⟨p, 1, none⟩ (.slice A2 (k + (n - (k + 1))) c2)) w0 _ := inferInstance
    simp only [emp_sep] at m4
    exact m4
set_option maxRecDepth 4000 in
set_option maxHeartbeats 4000000 in
/-- A name that leads to a file is put at its place. -/
theorem rlead_spec (p : Nat) (M : DiskSt) (s : ByteArray) (g : Nat) (hroom : M.now.length < 64) (w w0 : World) (F : Asn) (m : Mod w w0 (refA p M * F)) : Calls Tryz.prog 53 #[ptr p, .string s, ptr g] w fun e w' => e = .returned (.tuple #[]) ∧ ∃ A2 c2 B d, Mod w' w0 (Go.Sl.blk p (.cells #[.int .i64 (M.size : Int), .slice A2 (M.now.length + 1) c2, .slice B M.sure.length d] 105 (0, 0)) *
    (rowA 122 2 (.slice A2 (M.now.length + 1) c2) (M.now.length + 1) (nmCells (leadL s g M.now)) * (rowA 122 2 (.slice B M.sure.length d) M.sure.length (nmCells M.sure) * (rfilesA M.files * F)))) := by
  obtain ⟨A, c, B, d, hok, hc, m1⟩ := ref_open m
  clear m
  obtain ⟨n, hnn⟩ : ∃ n, M.now.length = n := ⟨_, rfl⟩
  rw [hnn] at m1 hc hroom ⊢
  have Hnn := Lib.hid hnn
  have r0 : Reads (rowA 122 2 (.slice A n c) n (nmCells M.now)) A (n * 2) (nmCells M.now) := reads_rown (by decide)
  have R0 := Lib.hid r0
  have key : ∀ (w2 : World) (A3 : Option Addr) (c3 gx : Nat), Mod w2 w0 (Go.Sl.blk p (.cells #[.int .i64 (M.size : Int), .slice A3 (n + 1) c3, .slice B M.sure.length d] 105 (0, 0)) * (rowA 122 2 (.slice A3 (n + 1) c3) (n + 1) (nmCells (leadL s g M.now)) * (Go.Sl.blk gx (.cells #[.string s, ptr g] 122 (0, 0)) *
      (rowA 122 2 (.slice A n c) n (nmCells M.now) * (rowA 122 2 (.slice B M.sure.length d) M.sure.length (nmCells M.sure) * (rfilesA M.files * F)))))) → Mod w2 w0 (Go.Sl.blk p (.cells #[.int .i64 (M.size : Int), .slice A3 (n + 1) c3, .slice B M.sure.length d] 105 (0, 0)) *
      (rowA 122 2 (.slice A3 (n + 1) c3) (n + 1) (nmCells (leadL s g M.now)) * (rowA 122 2 (.slice B M.sure.length d) M.sure.length (nmCells M.sure) * (rfilesA M.files * F)))) := fun w2 A3 c3 gx mm =>
    Mod.drop (A := Go.Sl.blk gx (.cells #[.string s, ptr g] 122 (0, 0)) * rowA 122 2 (.slice A n c) n (nmCells M.now)) (m := Mod.to (m := mm) (by ac_rfl))
  have Key := Lib.hid key
  clear r0 hnn hok key
  go_enter Tryz.func53, Tryz.ntmps53
  go_wp2_with fail
  go_loopg [7] n (fun gk iv wr => ∃ i : Nat, i ≤ n ∧ gk = n - i ∧ iv = .int .i64 (i : Int) ∧ Hid (∀ j (h : j < M.now.length), j < i → M.now[j].1.data.toList < s.data.toList) ∧ Mod wr w0 (Go.Sl.blk p (.cells #[.int .i64 (M.size : Int), .slice A n c, .slice B M.sure.length d] 105 (0, 0)) *
    (rowA 122 2 (.slice A n c) n (nmCells M.now) * (rowA 122 2 (.slice B M.sure.length d) M.sure.length (nmCells M.sure) * (rfilesA M.files * F)))))
  case atStart => exact ⟨0, Nat.zero_le _, rfl, rfl, fun j _ h => by omega, m1⟩
  case round =>
    obtain ⟨i, hi, hgk, rfl, Hlt, m2⟩ := hrel
    have fin : (∀ h : i < M.now.length, ¬ M.now[i].1.data.toList < s.data.toList) → Hid (leadL s g M.now = M.now.take i ++ (s, g) :: M.now.drop i) := fun h => leadL_at s g M.now i (by rw [Hnn.out]; exact hi) Hlt.out h
    have Fin := Lib.hid fin
    clear fin
    by_cases hlt : i < n
    · have hii : (i : Int) < (n : Int) := by omega
      obtain ⟨⟨b, o, sp⟩, hA, hsp, hcl⟩ := reads_cell m2 (reads_lift inferInstance R0.out) (by omega)
      simp only at hsp
      subst hsp hA
      have hil : i < M.now.length := by rw [Hnn.out]; exact hlt
      obtain ⟨e0, _⟩ := nm_at M.now i hil
      have hx := hcl _ _ e0
      clear hcl e0
      have hle : Go.Op.bytesLess M.now[i].1.toList s.toList = decide (M.now[i].1.data.toList < s.data.toList) := by rw [bytesLess_eq, ByteArray.toList_eq, ByteArray.toList_eq]
      cases hb : decide (M.now[i].1.data.toList < s.data.toList) with
      | true =>
        rw [hb] at hle
        have HN : Hid (∀ j (h : j < M.now.length), j < i + 1 → M.now[j].1.data.toList < s.data.toList) := fun j hj hji => by
          rcases Nat.lt_succ_iff_lt_or_eq.1 hji with h | h
          · exact Hlt.out j hj h
          · subst h; exact of_decide_eq_true hb
        clear hb Fin
        generalize M.now[i].1 = t at *
        go_wp2_with fail
        go_roundg (n - (i + 1))
        case measure => omega
        case rel => exact ⟨i + 1, hlt, rfl, by go_num, HN, m2⟩
      | false =>
        rw [hb] at hle
        have HF := Fin.out fun _ => of_decide_eq_false hb
        clear hb Fin
        generalize M.now[i].1 = t at *
        have hci : ¬ c = i := by omega
        have rA : Reads (rowA 122 2 (.slice (some ⟨b, o, none⟩) n c) n (nmCells M.now)) (some ⟨b, o, none⟩) (i * 2) (nmCells (M.now.take i)) := by
          have := R0.out.pre (i * 2) (by omega)
          rwa [nm_take] at this
        have rB := reads_sliced R0.out i n c (by omega) (Nat.le_refl _) hc
        rw [nm_drop, List.take_of_length_le (by rw [nmCells_length, List.length_drop, Hnn.out]; exact Nat.le_refl _)] at rB
        obtain ⟨A', hA', rB'⟩ : ∃ A', (if c = i then (some ⟨b, o, none⟩ : Option Addr) else Option.map (·.add (i * 2)) (some ⟨b, o, none⟩ : Option Addr)) = A' ∧ Reads (rowA 122 2 (.slice (some ⟨b, o, none⟩) n c) n (nmCells M.now)) A' ((n - i) * 2) (nmCells (M.now.drop i)) := ⟨_, rfl, rB⟩
        simp only [hci, if_false] at hA'
        subst hA'
        have ea : Option.map (·.add (i * 2)) (some ⟨b, o, none⟩ : Option Addr) = some ⟨b, o + i * 2, none⟩ := by rw [Option.map_some, add_off _ _ rfl]
        rw [ea] at rB'
        have RA := Lib.hid rA
        have RB := Lib.hid rB'
        have hkc : (i : Int) ≤ (c : Int) := by omega
        have hkn1 : (i : Int) ≤ (n : Int) := by omega
        clear rA rB rB' Hlt
        go_wp2_with first
          | (at_builtin; refine wpList_append_k (v := .slice A2 (i + 1) c2) (n := i + 1) (k := n - i) (t := 103) rfl rfl m4 rfl rfl (reads_lift inferInstance RB.out) (one_nm _) (by unfold maxLen; omega) (by omega) ?_; intro A3 c3 w3 m5)
          | (refine wpList_build_one (t := 103) (e := 122) (size := 2) (bytes := 24) (cs := #[.string s, ptr g]) rfl rfl rfl rfl (by decide) ?_)
          | (at_builtin; refine wpList_mod (w0 := w0) ?_; intro mw; have mx := Mod.pull (m := mw) (rowA 122 2 (.slice A1 i c1) i (nmCells (M.now.take i))); refine wpList_append_n (t := 103) (k := 1) (c := 1) (A := ⟨w1.heap.size, 0, none⟩) (news := [.string s, ptr g]) rfl rfl mx rfl rfl (reads_blk rfl rfl) (by decide) (one_nm [(s, g)]) (by unfold maxLen; omega) (by omega) ?_; clear mw mx; intro A2 c2 w2 m4)
          | (at_builtin; refine wpList_append_k (v := .slice none 0 0) (n := 0) (xs := []) (k := i) (t := 103) rfl rfl (row_none_n m2) rfl rfl (reads_lift inferInstance RA.out) (one_nm _) (by unfold maxLen; omega) (by omega) ?_; intro A1 c1 w1 m3; simp only [Nat.zero_add, List.nil_append] at m3 ⊢)
        go_end0
        have m6 : Mod (w3.setCell ⟨p, 1, none⟩ (.slice A3 (i + 1 + (n - i)) c3)) w0 _ := inferInstance
        simp only [emp_sep] at m6
        have en : i + 1 + (n - i) = n + 1 := by omega
        have ex : nmCells (M.now.take i) ++ [.string s, ptr g] ++ nmCells (M.now.drop i) = nmCells (leadL s g M.now) := by rw [HF.out, List.append_assoc]; show _ = nmCells (M.now.take i ++ ([(s, g)] ++ M.now.drop i)); rw [nm_append, nm_append]; rfl
        rw [en] at m6 ⊢
        rw [ex] at m6
        exact ⟨rfl, A3, c3, B, d, Key.out _ A3 c3 _ m6⟩
    · have hin : i = n := by omega
      have HF := Fin.out fun h => absurd h (by rw [Hnn.out]; omega)
      have hii : ¬ (i : Int) < (n : Int) := by omega
      clear Fin hin hlt
      by_cases hci : c = i
      all_goals
        have rA : Reads (rowA 122 2 (.slice A n c) n (nmCells M.now)) A (i * 2) (nmCells (M.now.take i)) := by
          have := R0.out.pre (i * 2) (by omega)
          rwa [nm_take] at this
        have rB := reads_sliced R0.out i n c (by omega) (Nat.le_refl _) hc
        rw [nm_drop, List.take_of_length_le (by rw [nmCells_length, List.length_drop, Hnn.out]; exact Nat.le_refl _)] at rB
        obtain ⟨A', hA', rB'⟩ : ∃ A', (if c = i then A else A.map (·.add (i * 2))) = A' ∧ Reads (rowA 122 2 (.slice A n c) n (nmCells M.now)) A' ((n - i) * 2) (nmCells (M.now.drop i)) := ⟨_, rfl, rB⟩
        simp only [hci, if_true, if_false] at hA'
        subst hA'
        have RA := Lib.hid rA
        have RB := Lib.hid rB'
        have hkc : (i : Int) ≤ (c : Int) := by omega
        have hkn1 : (i : Int) ≤ (n : Int) := by omega
        clear rA rB rB' Hlt
        go_wp2_with first
          | (at_builtin; refine wpList_append_k (v := .slice A2 (i + 1) c2) (n := i + 1) (k := n - i) (t := 103) rfl rfl m4 rfl rfl (reads_lift inferInstance RB.out) (one_nm _) (by unfold maxLen; omega) (by omega) ?_; intro A3 c3 w3 m5)
          | (refine wpList_build_one (t := 103) (e := 122) (size := 2) (bytes := 24) (cs := #[.string s, ptr g]) rfl rfl rfl rfl (by decide) ?_)
          | (at_builtin; refine wpList_mod (w0 := w0) ?_; intro mw; have mx := Mod.pull (m := mw) (rowA 122 2 (.slice A1 i c1) i (nmCells (M.now.take i))); refine wpList_append_n (t := 103) (k := 1) (c := 1) (A := ⟨w1.heap.size, 0, none⟩) (news := [.string s, ptr g]) rfl rfl mx rfl rfl (reads_blk rfl rfl) (by decide) (one_nm [(s, g)]) (by unfold maxLen; omega) (by omega) ?_; clear mw mx; intro A2 c2 w2 m4)
          | (at_builtin; refine wpList_append_k (v := .slice none 0 0) (n := 0) (xs := []) (k := i) (t := 103) rfl rfl (row_none_n m2) rfl rfl (reads_lift inferInstance RA.out) (one_nm _) (by unfold maxLen; omega) (by omega) ?_; intro A1 c1 w1 m3; simp only [Nat.zero_add, List.nil_append] at m3 ⊢)
        go_end0
        have m6 : Mod (w3.setCell ⟨p, 1, none⟩ (.slice A3 (i + 1 + (n - i)) c3)) w0 _ := inferInstance
        simp only [emp_sep] at m6
        have en : i + 1 + (n - i) = n + 1 := by omega
        have ex : nmCells (M.now.take i) ++ [.string s, ptr g] ++ nmCells (M.now.drop i) = nmCells (leadL s g M.now) := by rw [HF.out, List.append_assoc]; show _ = nmCells (M.now.take i ++ ([(s, g)] ++ M.now.drop i)); rw [nm_append, nm_append]; rfl
        rw [en] at m6 ⊢
        rw [ex] at m6
        exact ⟨rfl, A3, c3, B, d, Key.out _ A3 c3 _ m6⟩
end Go.Proofs.YtcakdaadbpimaaaGreatDoor
