/- Rows of cells in the small separation logic: a slice of the call's own, slices that are only read, append: plain lemmas. -/
import Derived.Test.YtmpgnnjhgjfgaaaDoorSl
import Derived.Maps.AppendAt
import Derived.OwnWalk
namespace Go.Sl
open Go

/-- Slice value v owns a row of cells of element type e (size cells an element), n elements, which read xs. -/
def rowA (e : TypeId) (size : Nat) (v : Value) (n : Nat) (xs : List Value) : Asn :=
  ⟨fun h => xs.length = n * size ∧ ((v = .slice none 0 0 ∧ n = 0 ∧ h = Hp.none) ∨
    ∃ g cap cur, v = .slice (some ⟨g, 0, none⟩) n cap ∧ n ≤ cap ∧ cap ≤ maxLen ∧ cur.size = cap * size ∧ cur.toList.take (n * size) = xs ∧ h = Hp.one g (.cells cur e (0, 0)))⟩
theorem rowA_nil (e : TypeId) (size : Nat) : (rowA e size (.slice none 0 0) 0 []).says Hp.none := ⟨by simp, .inl ⟨rfl, rfl, rfl⟩⟩
/-- The part of S that says A, seen from the world. -/
theorem Mod.part {w w0 : World} {A F : Asn} (m : Mod w w0 (A * F)) : ∃ a, A.says a ∧ ∀ k o, a k = some o → w.heap[k]? = some o := by
  have h := m.says
  rw [sep_assoc] at h
  obtain ⟨a, b, _, h2, h3, _⟩ := h
  refine ⟨a, h3, fun k o hk => ?_⟩
  have : hp w k = some o := by rw [h2]; simp [Hp.join, hk]
  exact this
theorem owns_of_row {w w0 : World} {e : TypeId} {size n : Nat} {v : Value} {xs : List Value} {F : Asn} (m : Mod w w0 (rowA e size v n xs * F)) : w.ownsRow 0 e size v n xs := by
  obtain ⟨a, ⟨hl, h⟩, hw⟩ := m.part
  refine ⟨hl, ?_⟩
  rcases h with ⟨hv, hn, _⟩ | ⟨g, cap, cur, hv, h1, h2, h3, h4, rfl⟩
  · exact .inl ⟨hv, hn⟩
  · exact .inr ⟨g, cap, cur, hv, Nat.zero_le _, hw g _ (by simp [Hp.one]), h1, h2, h3, h4⟩
/-- Behind a step that has turned the row alone, or made another one. -/
theorem Mod.rowStep {w w' w0 : World} {e : TypeId} {size n n' : Nat} {v v' : Value} {xs xs' : List Value} {F : Asn} (m : Mod w w0 (rowA e size v n xs * F))
    (hown : w'.ownsRow 0 e size v' n' xs') (hg : w.grownBy w' v.ownBlock) (hb : v'.ownBlock = v.ownBlock ∨ v'.ownBlock = some w.heap.size) : Mod w' w0 (rowA e size v' n' xs' * F) := by
  refine ⟨hg.os.trans m.os, hg.tape.trans m.tape, hg.output.trans m.output, ?_⟩
  have hs := m.says
  rw [sep_assoc] at hs ⊢
  obtain ⟨a, b, hab, hj, ⟨hl, ha⟩, hb'⟩ := hs
  have hlt : ∀ k o, b k = some o → k < w.heap.size := fun k o hk => by
    have : hp w k = some o := by
      rw [hj]
      rcases hab k with h | h
      · simp [Hp.join, h, hk]
      · rw [hk] at h; cases h
    exact (Array.getElem?_eq_some_iff.1 this).1
  have hnew : ∀ k, w.heap.size ≤ k → a k = none ∧ b k = none := fun k hk => by
    have h0 : hp w k = none := Array.getElem?_eq_none hk
    rw [hj] at h0
    cases h1 : a k with
    | none => simp [Hp.join, h1] at h0; exact ⟨rfl, h0⟩
    | some o => simp [Hp.join, h1] at h0
  -- the row's own block, if any, holds nothing of b
  have hown_b : ∀ g, v.ownBlock = some g → b g = none := fun g hg' => by
    rcases ha with ⟨hv, _, _⟩ | ⟨g0, cap, cur, hv, _, _, _, _, rfl⟩
    · rw [hv] at hg'; simp [Value.ownBlock] at hg'
    · rw [hv] at hg'
      simp [Value.ownBlock] at hg'
      subst hg'
      rcases hab g0 with h | h
      · simp [Hp.one] at h
      · exact h
  have hkeep : ∀ k o, b k = some o → w'.heap[k]? = some o := fun k o hk => by
    rw [hg.block k (hlt k o hk) (fun e => by rw [hown_b k e.symm] at hk; cases hk)]
    have : hp w k = some o := by
      rw [hj]
      rcases hab k with h | h
      · simp [Hp.join, h, hk]
      · rw [hk] at h; cases h
    exact this
  rcases hown.2 with ⟨hv', hn'⟩ | ⟨g, cap, cur, hv', _, hh, h1, h2, h3, h4⟩
  · -- an empty row
    refine ⟨Hp.none, hp w', Hp.none_apart _, by rw [Hp.join_none], ⟨hown.1, .inl ⟨hv', hn', rfl⟩⟩, ?_⟩
    obtain ⟨f, t, hft, hbj, hf, _⟩ := hb'
    refine ⟨f, fun k => if (f k).isSome then none else hp w' k, fun k => ?_, ?_, hf, trivial⟩
    · cases hk : f k with
      | none => exact .inl rfl
      | some o => right; simp [hk]
    · funext k
      cases hk : f k with
      | none => simp [Hp.join, hk]
      | some o =>
        have hbk : b k = some o := by rw [hbj]; simp [Hp.join, hk]
        simp [Hp.join, hk, hp, hkeep k o hbk]
  · have hbg : b g = none := by
      have e0 : v'.ownBlock = some g := by rw [hv']; rfl
      rcases hb with e | e
      · exact hown_b g (by rw [← e]; exact e0)
      · rw [e0] at e
        injection e with e
        rw [e]
        exact (hnew _ (Nat.le_refl _)).2
    obtain ⟨f, t, hft, hbj, hf, _⟩ := hb'
    have hfg : f g = none := by
      have := hbg
      rw [hbj] at this
      cases hk : f g with
      | none => rfl
      | some o => simp [Hp.join, hk] at this
    refine ⟨Hp.one g (.cells cur e (0, 0)), fun k => if k = g then none else hp w' k, fun k => ?_, ?_, ⟨hown.1, .inr ⟨g, cap, cur, hv', h1, h2, h3, h4, rfl⟩⟩, ?_⟩
    · by_cases hk : k = g
      · right; simp [hk]
      · left; simp [Hp.one, hk]
    · funext k
      by_cases hk : k = g
      · subst hk; simp [Hp.join, Hp.one, hp, hh]
      · simp [Hp.join, Hp.one, hk]
    · refine ⟨f, fun k => if k = g ∨ (f k).isSome then none else hp w' k, fun k => ?_, ?_, hf, trivial⟩
      · cases hk : f k with
        | none => exact .inl rfl
        | some o => right; simp [hk]
      · funext k
        by_cases hkg : k = g
        · subst hkg; simp [Hp.join, hfg]
        · cases hk : f k with
          | none => simp [Hp.join, hk, hkg]
          | some o =>
            have hbk : b k = some o := by rw [hbj]; simp [Hp.join, hk]
            simp [Hp.join, hk, hkg, hp, hkeep k o hbk]

/-- S knows what a slice reads. -/
class Reads (S : Asn) (A : Option Addr) (n : Nat) (xs : outParam (List Value)) : Prop where
  len : ∀ h, S.says h → xs.length = n
  cell : ∀ h, S.says h → 0 < n → ∃ ad, A = some ad ∧ ad.spot = none ∧ ∀ j u, xs[j]? = some u → ∃ c e f, h ad.block = some (.cells c e f) ∧ c[ad.off + j]? = some u
instance Reads.left (A B : Asn) (a : Option Addr) (n : Nat) (xs : List Value) [r : Reads A a n xs] : Reads (A * B) a n xs :=
  ⟨by rintro h ⟨x, y, _, rfl, h1, _⟩; exact r.len x h1, by
    rintro h ⟨x, y, _, rfl, h1, _⟩ hn
    obtain ⟨ad, ha, hs, hc⟩ := r.cell x h1 hn
    refine ⟨ad, ha, hs, fun j u hu => ?_⟩
    obtain ⟨c, e, f, hh, hcc⟩ := hc j u hu
    exact ⟨c, e, f, by simp [Hp.join, hh], hcc⟩⟩
instance Reads.right (A B : Asn) (a : Option Addr) (n : Nat) (xs : List Value) [r : Reads B a n xs] : Reads (A * B) a n xs :=
  ⟨by rintro h ⟨x, y, _, rfl, _, h1⟩; exact r.len y h1, by
    rintro h ⟨x, y, hxy, rfl, _, h1⟩ hn
    obtain ⟨ad, ha, hs, hc⟩ := r.cell y h1 hn
    refine ⟨ad, ha, hs, fun j u hu => ?_⟩
    obtain ⟨c, e, f, hh, hcc⟩ := hc j u hu
    refine ⟨c, e, f, ?_, hcc⟩
    rcases hxy ad.block with h | h
    · simp [Hp.join, h, hh]
    · rw [h] at hh; cases hh⟩
instance Reads.row (e : TypeId) (a : Option Addr) (n c : Nat) (xs : List Value) : Reads (rowA e 1 (.slice a n c) n xs) a n xs :=
  ⟨fun h hh => by have := hh.1; simpa using this, fun h hh hn => by
    rcases hh.2 with ⟨_, h0, _⟩ | ⟨g, cap, cur, hv, h1, h2, h3, h4, rfl⟩
    · omega
    · injection hv with hv
      refine ⟨_, hv, rfl, fun j u hu => ⟨cur, e, (0, 0), by simp [Hp.one], ?_⟩⟩
      rw [← h4] at hu
      rw [List.getElem?_take] at hu
      split at hu
      · simpa using hu
      · cases hu⟩
theorem reads_cell {w w0 : World} {S : Asn} {A : Option Addr} {n : Nat} {xs : List Value} (m : Mod w w0 S) (r : Reads S A n xs) (hn : 0 < n) :
    ∃ ad, A = some ad ∧ ad.spot = none ∧ ∀ j u, xs[j]? = some u → w.cell? ⟨ad.block, ad.off + j, none⟩ = some u := by
  obtain ⟨a, b, _, h2, h3, _⟩ := m.says
  obtain ⟨ad, ha, hs, hc⟩ := r.cell a h3 hn
  refine ⟨ad, ha, hs, fun j u hu => ?_⟩
  obtain ⟨c, e, f, hh, hcc⟩ := hc j u hu
  have : hp w ad.block = some (.cells c e f) := by rw [h2]; simp [Hp.join, hh]
  have this : w.heap[ad.block]? = some (.cells c e f) := this
  simp [World.cell?, this, hcc]
theorem reads_len {w w0 : World} {S : Asn} {A : Option Addr} {n : Nat} {xs : List Value} (m : Mod w w0 S) (r : Reads S A n xs) : xs.length = n := by
  obtain ⟨a, b, _, h2, h3, _⟩ := m.says
  exact r.len a h3
theorem add_off (ad : Addr) (j : Nat) (h : ad.spot = none) : ad.add j = ⟨ad.block, ad.off + j, none⟩ := by
  unfold Addr.add
  cases ad with
  | mk b o s =>
    simp at h
    subst h
    by_cases hj : j = 0 <;> simp [hj]

/-- append of a slice that is read onto a row of one's own (elements of one cell). -/
theorem run_append_row {P : Program} {w w0 : World} {S F : Asn} (t ty e : TypeId) (i : TypeInfo) (z : Value) (bytes : Nat) (ht : P.underlying t = some (.slice e)) (hi : P.info? e = some i) (hz : i.zero = some z)
    (hsize : i.size = 1) (hby : i.bytes = bytes) (hzs : z.cells.size = 1) (v : Value) (n : Nat) (xs : List Value) (m : Mod w w0 (rowA e 1 v n xs * F))
    (A : Option Addr) (k c : Nat) (news : List Value) [mS : Mod w w0 S] [r : Reads S A k news] (h1 : ∀ u ∈ news, u.oneCell' = true) (h63 : n + k ≤ maxLen) (hbytes : (n + k) * bytes ≤ 140737488355328) :
    ∃ v' w', (Builtin.append_ #[t, t] ty #[v, .slice A k c]).run P w = .ok v' w' ∧ Mod w' w0 (rowA e 1 v' (n + k) (xs ++ news) * F) ∧ (v' = .slice none 0 0 ∨ ∃ g cap, v' = .slice (some ⟨g, 0, none⟩) (n + k) cap) := by
  have hown := owns_of_row m
  have hlen := reads_len mS r
  rcases Nat.eq_zero_or_pos k with hk | hk
  · subst hk
    have hnews : news = [] := List.eq_nil_of_length_eq_zero hlen
    subst hnews
    refine ⟨v, w, ?_, by simpa using m, ?_⟩
    · rcases hown.2 with ⟨rfl, rfl⟩ | ⟨g, cap, cur, rfl, _, hh, hnc, _⟩
      · cases A <;> simp [Builtin.append_, run_underlying ht, sizeOf, typeInfo, hi, Builtin.lenOf, Builtin.firstCells, loadCells, loadCellsFrom]
      · cases A <;> simp [Builtin.append_, run_underlying ht, sizeOf, typeInfo, hi, Builtin.lenOf, Builtin.firstCells, loadCells, loadCellsFrom, hnc, storeCells]
    · rcases hown.2 with ⟨rfl, rfl⟩ | ⟨g, cap, cur, rfl, _⟩
      · exact .inl rfl
      · exact .inr ⟨g, cap, rfl⟩
  · obtain ⟨ad, rfl, hs, hc⟩ := reads_cell mS r hk
    obtain ⟨v', w', hrun, h2, h3, h4, h5⟩ := run_append_own_at (P := P) w 0 t ty e i z 1 bytes ht hi hz hsize hby hzs (by omega) v n xs hown ad k c news (by simpa using hlen)
      (fun j u hu => by rw [add_off ad j hs]; exact hc j u hu) h1 h63 hbytes (Nat.zero_le _)
    refine ⟨v', w', hrun, m.rowStep h2 h3 h5, ?_⟩
    rcases h2.2 with ⟨rfl, h0⟩ | ⟨g, cap, cur, rfl, _⟩
    · omega
    · exact .inr ⟨g, cap, rfl⟩
theorem wpList_append_row {P : Program} {w w0 : World} {S F : Asn} {ops : Array Oper} {rest : List Oper} {o : Oper} {a : Act} {Q : Exit → Act → World → Prop} (hgd : o.guard = none) (s x : Operand) (t : TypeId)
    (ho : o.op = .call { callee := .builtin .append, args := #[s, x], argTypes := #[t, t] })
    (e : TypeId) (i : TypeInfo) (z : Value) (bytes : Nat) (ht : P.underlying t = some (.slice e)) (hi : P.info? e = some i) (hz : i.zero = some z)
    (hsize : i.size = 1) (hby : i.bytes = bytes) (hzs : z.cells.size = 1) (v : Value) (n : Nat) (xs : List Value) (hs : a.eval s = v) (m : Mod w w0 (rowA e 1 v n xs * F))
    (A : Option Addr) (k c : Nat) (news : List Value) (hx : a.eval x = .slice A k c) [mS : Mod w w0 S] [r : Reads S A k news] (h1 : ∀ u ∈ news, u.oneCell' = true) (h63 : n + k ≤ maxLen) (hbytes : (n + k) * bytes ≤ 140737488355328)
    (h : ∀ v' w', Mod w' w0 (rowA e 1 v' (n + k) (xs ++ news) * F) → (v' = .slice none 0 0 ∨ ∃ g cap, v' = .slice (some ⟨g, 0, none⟩) (n + k) cap) → wpList P ops Q rest (a.put o.dst v') w') : wpList P ops Q (o :: rest) a w :=
  wpList_plain hgd fun _ hK => by
    obtain ⟨v', w', hrun, h2, h3⟩ := run_append_row (P := P) (S := S) t o.type e i z bytes ht hi hz hsize hby hzs v n xs m A k c news h1 h63 hbytes
    unfold Oper.wp execOp
    simp only [ho, resolve, invoke, builtin, Sem.run_bind, Sem.run_pure, Result.andThen_ok, List.map_toArray, List.map_cons, List.map_nil, hs, hx, hrun]
    exact hK _ _ (h v' w' h2 h3)
/-- What a walk wants to know of a slice's type whose elements are of one cell, once for a type. -/
def oneOk (P : Program) (e : TypeId) (bytes : Nat) : Bool := match P.info? e with
  | some i => (match i.zero with | some z => decide (z.cells.size = 1) | none => false) && decide (i.size = 1) && decide (i.bytes = bytes)
  | none => false
class RowT (P : Program) (t : TypeId) (e : outParam TypeId) (bytes : outParam Nat) : Prop where
  ht : P.underlying t = some (.slice e)
  ok : oneOk P e bytes = true
theorem RowT.get {P : Program} {t e : TypeId} {bytes : Nat} (T : RowT P t e bytes) : ∃ i z, P.info? e = some i ∧ i.zero = some z ∧ i.size = 1 ∧ i.bytes = bytes ∧ z.cells.size = 1 := by
  have h := T.ok
  unfold oneOk at h
  cases hi : P.info? e with
  | none => rw [hi] at h; cases h
  | some i =>
    rw [hi] at h
    cases hz : i.zero with
    | none => simp [hz] at h
    | some z => simp [hz] at h; exact ⟨i, z, rfl, hz, h.1.2, h.2, h.1.1⟩
/-- append of a slice that is read onto a row of one's own, at the operation. -/
theorem wpList_append {P : Program} {w w0 : World} {S0 F : Asn} {ops : Array Oper} {rest : List Oper} {o : Oper} {a : Act} {Q : Exit → Act → World → Prop} {s x : Operand} {t : TypeId} {e : TypeId} {bytes : Nat} [T : RowT P t e bytes] (hgd : o.guard = none)
    (ho : o.op = .call { callee := .builtin .append, args := #[s, x], argTypes := #[t, t] }) (m : Mod w w0 S0) {v : Value} {n : Nat} {xs : List Value} (hs : a.eval s = v) [tk : Take S0 (fun q : Nat × List Value => rowA e 1 v q.1 q.2) (n, xs) F]
    {A : Option Addr} {k c : Nat} {news : List Value} (hx : a.eval x = .slice A k c) [r : Reads S0 A k news] (h1 : ∀ u ∈ news, u.oneCell' = true) (h63 : n + k ≤ maxLen) (hbytes : (n + k) * bytes ≤ 140737488355328)
    (h : ∀ A' c' w', Mod w' w0 (rowA e 1 (.slice A' (n + k) c') (n + k) (xs ++ news) * F) → wpList P ops Q rest (a.put o.dst (.slice A' (n + k) c')) w') : wpList P ops Q (o :: rest) a w := by
  obtain ⟨i, z, hi, hz, hsize, hby, hzs⟩ := T.get
  have e0 : S0 = rowA e 1 v n xs * F := tk.eq
  refine wpList_append_row (S := S0) hgd s x t ho e i z bytes T.ht hi hz hsize hby hzs v n xs hs (Mod.to e0) A k c news hx h1 h63 hbytes fun v' w' m' hv => ?_
  have hv2 : ∃ A' c', v' = .slice A' (n + k) c' := by
    rcases (owns_of_row m').2 with ⟨h1, h2⟩ | ⟨g, cap, cur, h1, _⟩
    · exact ⟨none, 0, by rw [h1, h2]⟩
    · exact ⟨_, _, h1⟩
  obtain ⟨A', c', rfl⟩ := hv2
  exact h A' c' w' m'
instance Take.rowF (e : TypeId) (size : Nat) (v : Value) (n : Nat) (xs : List Value) : Take (rowA e size v n xs) (fun q : Nat × List Value => rowA e size v q.1 q.2) (n, xs) emp := ⟨(sep_emp _).symm⟩
theorem Reads.sub {S : Asn} {ad : Addr} {n : Nat} {xs : List Value} (r : Reads S (some ad) n xs) (i k : Nat) (h : i + k ≤ n) : Reads S (some (ad.add i)) k ((xs.drop i).take k) :=
  ⟨fun x hx => by have := r.len x hx; simp; omega, fun x hx hk => by
    obtain ⟨ad', ha, hs, hc⟩ := r.cell x hx (by omega)
    injection ha with ha
    subst ha
    refine ⟨_, rfl, ?_, fun j u hu => ?_⟩
    · rw [add_off _ _ hs]
    · rw [List.getElem?_take] at hu
      split at hu
      · rw [List.getElem?_drop] at hu
        obtain ⟨c, e, f, h1, h2⟩ := hc (i + j) u hu
        rw [add_off _ _ hs]
        exact ⟨c, e, f, h1, by rw [← h2]; congr 1; show _ + i + j = _; omega⟩
      · cases hu⟩
theorem Reads.part {S : Asn} {A : Option Addr} {n : Nat} {xs : List Value} (r : Reads S A n xs) (i k : Nat) (h : i + k ≤ n) : Reads S (A.map (·.add i)) k ((xs.drop i).take k) := by
  cases A with
  | some ad => exact r.sub i k h
  | none => exact ⟨fun x hx => by have := r.len x hx; simp; omega, fun x hx hk => by obtain ⟨ad', ha, _⟩ := r.cell x hx (by omega); cases ha⟩
theorem Reads.pre {S : Asn} {A : Option Addr} {n : Nat} {xs : List Value} (r : Reads S A n xs) (k : Nat) (h : k ≤ n) : Reads S A k (xs.take k) :=
  ⟨fun x hx => by have := r.len x hx; simp; omega, fun x hx hk => by
    obtain ⟨ad, ha, hs, hc⟩ := r.cell x hx (by omega)
    refine ⟨ad, ha, hs, fun j u hu => ?_⟩
    rw [List.getElem?_take] at hu
    split at hu
    · exact hc j u hu
    · cases hu⟩
theorem Reads.none_of {S : Asn} (A : Option Addr) : Reads S A 0 [] := ⟨fun _ _ => rfl, fun _ _ h => absurd h (by simp)⟩
/-- A row made behind all that was there. -/
theorem Mod.rowBelow {w w' w0 : World} {S : Asn} {e : TypeId} {size n : Nat} {v : Value} {xs : List Value} (m : Mod w w0 S) {N : Nat} (hN : N = w.heap.size) (hb : Go.RowKit.Below N w w') (hown : w'.ownsRow N e size v n xs) : Mod w' w0 (rowA e size v n xs * S) := by
  subst hN
  refine ⟨hb.os.trans m.os, hb.tape.trans m.tape, hb.output.trans m.output, ?_⟩
  obtain ⟨a, b, hab, hj, ha, _⟩ := m.says
  have hlt : ∀ k o, a k = some o → k < w.heap.size := fun k o hk => by
    have : hp w k = some o := by rw [hj]; simp [Hp.join, hk]
    exact (Array.getElem?_eq_some_iff.1 this).1
  have hkeep : ∀ k o, a k = some o → hp w' k = some o := fun k o hk => by
    have h1 : hp w k = some o := by rw [hj]; simp [Hp.join, hk]
    have h2 : hp w' k = hp w k := hb.block k (hlt k o hk)
    rw [h2, h1]
  rw [sep_assoc]
  rcases hown.2 with ⟨hv, hn⟩ | ⟨g, cap, cur, hv, hg, hh, h1, h2, h3, h4⟩
  · refine ⟨Hp.none, hp w', Hp.none_apart _, by rw [Hp.join_none], ⟨hown.1, .inl ⟨hv, hn, rfl⟩⟩, a, fun k => if (a k).isSome then none else hp w' k, fun k => ?_, ?_, ha, trivial⟩
    · cases hk : a k with
      | none => exact .inl rfl
      | some o => right; simp [hk]
    · funext k
      cases hk : a k with
      | none => simp [Hp.join, hk]
      | some o => simp [Hp.join, hk, hkeep k o hk]
  · have hag : a g = none := by
      cases hk : a g with
      | none => rfl
      | some o => have := hlt g o hk; omega
    refine ⟨Hp.one g (.cells cur e (0, 0)), fun k => if k = g then none else hp w' k, fun k => ?_, ?_, ⟨hown.1, .inr ⟨g, cap, cur, hv, h1, h2, h3, h4, rfl⟩⟩, a, fun k => if k = g ∨ (a k).isSome then none else hp w' k, fun k => ?_, ?_, ha, trivial⟩
    · by_cases hk : k = g
      · right; simp [hk]
      · left; simp [Hp.one, hk]
    · funext k
      by_cases hk : k = g
      · subst hk; simp [Hp.join, Hp.one, hp, hh]
      · simp [Hp.join, Hp.one, hk]
    · cases hk : a k with
      | none => exact .inl rfl
      | some o => right; simp [hk]
    · funext k
      by_cases hkg : k = g
      · subst hkg; simp [Hp.join, hag]
      · cases hk : a k with
        | none => simp [Hp.join, hk, hkg]
        | some o => simp [Hp.join, hk, hkg, hkeep k o hk]
end Go.Sl
