/- Ranging over a map with text keys, in the small separation logic: plain lemmas. -/
import Derived.Test.YtmpgnnjhgjfgaaaDoorSl
namespace Go.Sl
open Go

/-- Block r is a map with entries L, block it an iterator over it; left: the entries still to come; cur: the entry at which it stands. -/
def iterA (it r : Nat) (L left : Pairs) (cur : Option (ByteArray × Value)) : Asn :=
  ⟨fun h => ∃ es clock seen, MapOk es clock L ∧ it ≠ r ∧ h = Hp.join (Hp.one r (.map es clock)) (Hp.one it (.mapIter (some r) clock seen clock)) ∧
    (es.toList.filter fun e => !seen.contains e.born).map (fun e => (e.key, e.val)) = left.map (fun p => (Value.string p.1, p.2)) ∧
    (∀ s v, cur = some (s, v) → ∃ e b, seen.back? = some b ∧ es.toList.find? (fun e => e.born == b) = some e ∧ e.key = .string s ∧ e.val = v)⟩
section
variable {P : Program} {w w0 : World} {S F : Asn} {r it : Nat} {L left : Pairs} {cur : Option (ByteArray × Value)}
instance HasMap.iter : HasMap (iterA it r L left cur) r L :=
  ⟨fun h ⟨es, c, seen, hm, _, hh, _⟩ => ⟨es, c, hm, by rw [hh]; simp [Hp.join, Hp.one]⟩⟩
theorem iter_parts (m : Mod w w0 (iterA it r L left cur * F)) : ∃ es clock seen, MapOk es clock L ∧ it ≠ r ∧ w.heap[r]? = some (.map es clock) ∧ w.heap[it]? = some (.mapIter (some r) clock seen clock) ∧
    (es.toList.filter fun e => !seen.contains e.born).map (fun e => (e.key, e.val)) = left.map (fun p => (Value.string p.1, p.2)) ∧
    (∀ s v, cur = some (s, v) → ∃ e b, seen.back? = some b ∧ es.toList.find? (fun e => e.born == b) = some e ∧ e.key = .string s ∧ e.val = v) := by
  have h := m.says
  rw [sep_assoc] at h
  obtain ⟨a, b, _, h2, ⟨es, c, seen, hm, hne, ha, hl, hc⟩, _⟩ := h
  refine ⟨es, c, seen, hm, hne, ?_, ?_, hl, hc⟩
  · have : hp w r = some (.map es c) := by rw [h2, ha]; simp [Hp.join, Hp.one]
    exact this
  · have : hp w it = some (.mapIter (some r) c seen c) := by rw [h2, ha]; simp [Hp.join, Hp.one, hne]
    exact this
/-- The world behind 'range' over a map. -/
def _root_.Go.World.rangeOn (w : World) (r : Nat) : World :=
  match w.heap[r]? with
  | some (.map _ clock) => w.alloc (.mapIter (some r) clock #[] clock)
  | _ => w
theorem run_range_smap {t : TypeId} [Mod w w0 S] [HasMap S r L] [T : SMap P t] : (Instr.range t (.map (some r))).run P w = .ok (.pointer (some ⟨w.heap.size, 0, none⟩)) (w.rangeOn r) := by
  obtain ⟨es, c, hm, hw⟩ := mapBlock (w0 := w0) (S := S) (r := r) (L := L) w
  simp [Instr.range, run_underlying T.map, run_getObj_at hw, World.rangeOn, hw]
attribute [go_sem] run_range_smap
instance Mod.rangeOn {n : Nat} [hn : HpSize w n] [m : Mod w w0 S] [t : Take S (smap r) L F] : Mod (w.rangeOn r) w0 (iterA n r L L none * F) := by
  obtain rfl := hn.eq
  have hb : HasMap S r L := by rw [t.eq]; infer_instance
  have h := m.says
  rw [t.eq, sep_assoc] at h
  obtain ⟨a, b, hab, h2, ⟨es, c, hm, ha⟩, hb'⟩ := h
  have hw : w.heap[r]? = some (.map es c) := by
    have : hp w r = some (.map es c) := by rw [h2, ha]; simp [Hp.join, Hp.one]
    exact this
  have hr : r < w.heap.size := (Array.getElem?_eq_some_iff.1 hw).1
  have hwr : w.rangeOn r = w.alloc (.mapIter (some r) c #[] c) := by simp [World.rangeOn, hw]
  rw [hwr]
  refine ⟨m.os, m.tape, m.output, ?_⟩
  rw [sep_assoc]
  obtain ⟨e1, e2⟩ := hp_alloc w (.mapIter (some r) c #[] c)
  refine ⟨Hp.join (Hp.one r (.map es c)) (Hp.one w.heap.size (.mapIter (some r) c #[] c)), b, ?_, ?_, ⟨es, c, #[], hm, by omega, rfl, ?_, fun s v h => by cases h⟩, hb'⟩
  · intro k
    by_cases hk : k = w.heap.size
    · right
      have h0 : hp w k = none := by rw [hk]; simp [hp]
      rw [h2] at h0
      cases h1 : a k with
      | none => simpa [Hp.join, h1] using h0
      | some o => simp [Hp.join, h1] at h0
    · rcases hab k with h | h
      · left
        rw [ha] at h
        simp only [Hp.join, h, Option.none_or]
        simp [Hp.one, hk]
      · exact .inr h
  · rw [e1, h2, ha]
    funext k
    simp only [Hp.join]
    by_cases hk : k = w.heap.size
    · have : Hp.one r (Obj.map es c) k = none := by simp only [Hp.one]; rw [if_neg (by omega)]
      simp [Hp.one, hk]
      rw [if_neg (by omega)]; simp
    · have : Hp.one w.heap.size (Obj.mapIter (some r) c #[] c) k = none := by simp [Hp.one, hk]
      simp [this]
  · have : (es.toList.filter fun e => !(#[] : Array Nat).contains e.born) = es.toList := by rw [List.filter_eq_self]; intro e _; simp
    rw [this]; exact hm.keys
/-- The entry at which an iterator stands. -/
class HasCur (S : Asn) (it : Nat) (s : outParam ByteArray) (v : outParam Value) : Prop where
  has : ∀ h, S.says h → ∃ r es clock seen e b, h r = some (.map es clock) ∧ h it = some (.mapIter (some r) clock seen clock) ∧ seen.back? = some b ∧ es.toList.find? (fun e => e.born == b) = some e ∧ e.key = .string s ∧ e.val = v
instance HasCur.iter {s : ByteArray} {v : Value} : HasCur (iterA it r L left (some (s, v))) it s v :=
  ⟨fun h ⟨es, c, seen, hm, hne, hh, _, hc⟩ => by
    obtain ⟨e, b, h1, h2, h3, h4⟩ := hc s v rfl
    exact ⟨r, es, c, seen, e, b, by rw [hh]; simp [Hp.join, Hp.one], by rw [hh]; simp [Hp.join, Hp.one, hne], h1, h2, h3, h4⟩⟩
instance HasCur.fromLeft (A B : Asn) {s : ByteArray} {v : Value} [q : HasCur A it s v] : HasCur (A * B) it s v :=
  ⟨by
    rintro h ⟨x, y, _, rfl, h1, _⟩
    obtain ⟨r, es, c, seen, e, b, h2, h3, h4⟩ := q.has x h1
    exact ⟨r, es, c, seen, e, b, by simp [Hp.join, h2], by simp [Hp.join, h3], h4⟩⟩
instance HasCur.fromRight (A B : Asn) {s : ByteArray} {v : Value} [q : HasCur B it s v] : HasCur (A * B) it s v :=
  ⟨by
    rintro h ⟨x, y, hxy, rfl, _, h1⟩
    obtain ⟨r, es, c, seen, e, b, h2, h3, h4⟩ := q.has y h1
    refine ⟨r, es, c, seen, e, b, ?_, ?_, h4⟩
    · rcases hxy r with h | h
      · simp [Hp.join, h, h2]
      · rw [h] at h2; cases h2
    · rcases hxy it with h | h
      · simp [Hp.join, h, h3]
      · rw [h] at h3; cases h3⟩
@[go_sem] theorem run_entry_cur {s : ByteArray} {v : Value} [m : Mod w w0 S] [q : HasCur S it s v] : (Instr.entry (.pointer (some ⟨it, 0, none⟩))).run P w = .ok (.tuple #[.string s, v]) w := by
  obtain ⟨a, b0, _, h2, h3, _⟩ := m.says
  obtain ⟨r, es, c, seen, e, b, hr, hi, hb, hf, hk, hv⟩ := q.has a h3
  have hwr : w.heap[r]? = some (.map es c) := by
    have : hp w r = some (.map es c) := by rw [h2]; simp [Hp.join, hr]
    exact this
  have hwi : w.heap[it]? = some (.mapIter (some r) c seen c) := by
    have : hp w it = some (.mapIter (some r) c seen c) := by rw [h2]; simp [Hp.join, hi]
    exact this
  have hf' : es.find? (fun e => e.born == b) = some e := by rw [← Array.find?_toList]; exact hf
  simp [Instr.entry, run_getObj_at hwr, run_getObj_at hwi, hb, hf', hk, hv]
theorem eraseIdx_filter_born : ∀ (l : List MapEntry) (i : Nat) (hi : i < l.length), l.Pairwise (fun a b => a.born < b.born) → l.filter (fun e => !decide (e.born = l[i].born)) = l.eraseIdx i
  | [], i, hi, _ => by simp at hi
  | e :: l, 0, _, h => by
    obtain ⟨h1, h2⟩ := List.pairwise_cons.1 h
    simp only [List.getElem_cons_zero, List.eraseIdx_zero, List.tail_cons]
    rw [List.filter_cons, if_neg (by simp), List.filter_eq_self]
    intro x hx
    have := h1 x hx
    simp; omega
  | e :: l, i + 1, hi, h => by
    obtain ⟨h1, h2⟩ := List.pairwise_cons.1 h
    have hi' : i < l.length := by simpa using hi
    simp only [List.getElem_cons_succ, List.eraseIdx_cons_succ]
    have := h1 _ (List.getElem_mem hi')
    rw [List.filter_cons, if_pos (by simp; omega), eraseIdx_filter_born l i hi' h2]
theorem all_old {es : Array MapEntry} {c : Nat} (hm : MapOk es c L) (p : MapEntry → Bool) : ((es.filter p).filter (fun e => decide (e.born < c))).toList = es.toList.filter p ∧ ((es.filter p).filter (fun e => decide (e.born ≥ c))).toList = [] := by
  constructor
  · rw [Array.toList_filter, Array.toList_filter, List.filter_eq_self]
    intro e he
    have := hm.lt e (List.mem_filter.1 he).1
    simpa using this
  · rw [Array.toList_filter, Array.toList_filter, List.filter_eq_nil_iff]
    intro e he
    have := hm.lt e (List.mem_filter.1 he).1
    simp; omega
/-- One step of an iterator: it is at its end, or goes to one of the entries that are left. -/
theorem run_next_smap (m : Mod w w0 (iterA it r L left cur * F)) (ty : TypeId) :
    (left = [] ∧ ∃ w', (Instr.next (.pointer (some ⟨it, 0, none⟩)) false ty).run P w = .ok (.tuple #[.bool false]) w' ∧ Mod w' w0 (iterA it r L [] cur * F)) ∨
    ∃ (i : Nat) (hi : i < left.length) (w' : World), (Instr.next (.pointer (some ⟨it, 0, none⟩)) false ty).run P w = .ok (.tuple #[.bool true, .string left[i].1, left[i].2]) w' ∧ Mod w' w0 (iterA it r L (left.eraseIdx i) (some left[i]) * F) := by
  obtain ⟨es, c, seen, hm, hne, hwr, hwi, hl, hc⟩ := iter_parts m
  generalize hfl : es.toList.filter (fun e => !seen.contains e.born) = fl at hl
  have hlen : fl.length = left.length := by have := congrArg List.length hl; simpa using this
  have hguard : (!seen.isEmpty && !es.isEmpty && es.all (fun e => decide (e.born ≥ c))) = false := by
    cases he : es.isEmpty with
    | true => simp
    | false =>
      have : es.all (fun e => decide (e.born ≥ c)) = false := by
        rw [← Array.all_toList]
        cases hes : es.toList with
        | nil => simp [Array.isEmpty, ← Array.length_toList, hes] at he
        | cons e l =>
          have := hm.lt e (by rw [hes]; simp)
          simp only [List.all_cons, Bool.and_eq_false_iff]
          left; simp; omega
      rw [this]; simp
  obtain ⟨ho, hn⟩ := all_old hm (fun e => !seen.contains e.born)
  rw [hfl] at ho
  have hoA : ((es.filter (fun e => !seen.contains e.born)).filter (fun e => decide (e.born < c))) = fl.toArray := by rw [← ho]
  have hnA : ((es.filter (fun e => !seen.contains e.born)).filter (fun e => decide (e.born ≥ c))) = #[] := by apply Array.ext'; rw [hn]
  have gi : (getObj it).run P w = .ok (.mapIter (some r) c seen c) w := run_getObj_at hwi (by intros; simp)
  have gr : (getObj r).run P w = .ok (.map es c) w := run_getObj_at hwr (by intros; simp)
  have hraw : (Instr.next (.pointer (some ⟨it, 0, none⟩)) false ty).run P w = ((choose (.mapNext ((if fl.toArray.isEmpty then #[none] else #[]) ++ fl.toArray.map some).size)).run P w).andThen fun n w' =>
      (match ((if fl.toArray.isEmpty then #[none] else #[]) ++ fl.toArray.map some)[n]? with
        | some (some e) => (do setObj it (.mapIter (some r) c (seen.push e.born) c); pure (.tuple #[.bool true, e.key, e.val]) : Sem Value)
        | some none => pure (.tuple #[.bool false])
        | none => stuck "Next: no such candidate").run P w' := by
    simp only [Instr.next, Sem.run_bind, gi, gr, Result.andThen_ok]
    rw [if_neg (by rw [hguard]; simp)]
    simp only [hoA, hnA, Array.append_empty]
    exact Sem.run_bind P w _ _
  cases hleft : left with
  | nil =>
    left
    have hfl0 : fl = [] := List.eq_nil_of_length_eq_zero (by rw [hlen, hleft]; rfl)
    subst hfl0
    refine ⟨rfl, w, ?_, by rw [← hleft]; exact m⟩
    rw [hraw]; simp [Question.forced]
  | cons p0 left0 =>
    right
    rw [← hleft]
    have hpos : 0 < fl.length := by rw [hlen, hleft]; simp
    -- which one is chosen
    have hcand : ∃ (i : Nat) (hi : i < fl.length) (w1 : World), w1.heap = w.heap ∧ w1.os = w.os ∧ w1.tape = w.tape ∧ w1.output = w.output ∧
        (choose (.mapNext fl.length)).run P w = .ok i w1 := by
      by_cases h1 : fl.length ≤ 1
      · exact ⟨0, hpos, w, rfl, rfl, rfl, rfl, by simp [Question.forced, h1]⟩
      · exact ⟨(w.tape w.drawn (.mapNext fl.length)) % fl.length, Nat.mod_lt _ hpos, w.drew, rfl, rfl, rfl, rfl, by simp [Question.forced, h1, Question.cut]⟩
    obtain ⟨i, hi, w1, hh, hos, htp, hout, hrun⟩ := hcand
    have hi' : i < left.length := by rw [← hlen]; exact hi
    have hkv : fl[i].key = .string left[i].1 ∧ fl[i].val = left[i].2 := by
      have := congrArg (fun l => l[i]?) hl
      simp [hi, hi'] at this
      exact this
    have hmem : fl[i] ∈ es.toList ∧ seen.contains fl[i].born = false := by
      have : fl[i] ∈ es.toList.filter (fun e => !seen.contains e.born) := by rw [hfl]; exact List.getElem_mem hi
      have := List.mem_filter.1 this
      exact ⟨this.1, by simpa using this.2⟩
    have hwi1 : w1.heap[it]? = some (.mapIter (some r) c seen c) := by rw [hh]; exact hwi
    have hsz : it < w.heap.size := (Array.getElem?_eq_some_iff.1 hwi).1
    refine ⟨i, hi', { w1 with heap := w1.heap.setIfInBounds it (.mapIter (some r) c (seen.push fl[i].born) c) }, ?_, ?_⟩
    · have hne0 : fl ≠ [] := by intro e; rw [e] at hpos; simp at hpos
      have he : fl.toArray.isEmpty = false := by simp [hne0]
      rw [hraw, he]
      simp only [Bool.false_eq_true, if_false, Array.empty_append, Array.size_map, List.size_toArray, hrun, Result.andThen_ok]
      simp [hi, run_setObj_at hwi1, hkv]
    · have hpw : fl.Pairwise (fun a b => a.born < b.born) := by rw [← hfl]; exact hm.born.sublist List.filter_sublist
      have h := m.says
      rw [sep_assoc] at h
      obtain ⟨a, b, hab, h2, ⟨es', c', seen', hm', _, ha, hl', _⟩, hb'⟩ := h
      refine ⟨hos.trans m.os, htp.trans m.tape, hout.trans m.output, ?_⟩
      rw [sep_assoc]
      have e1 : es' = es ∧ c' = c := by
        have : hp w r = some (.map es' c') := by rw [h2, ha]; simp [Hp.join, Hp.one]
        have h0 : hp w r = some (.map es c) := hwr
        rw [h0] at this; injection this with this; injection this with x y; exact ⟨x.symm, y.symm⟩
      have e2 : seen' = seen := by
        have : hp w it = some (.mapIter (some r) c' seen' c') := by rw [h2, ha]; simp [Hp.join, Hp.one, hne]
        have h0 : hp w it = some (.mapIter (some r) c seen c) := hwi
        rw [h0] at this; injection this with this; injection this with _ _ z _; exact z.symm
      obtain ⟨rfl, rfl⟩ := e1
      subst e2
      refine ⟨Hp.join (Hp.one r (.map es' c')) (Hp.one it (.mapIter (some r) c' (seen'.push fl[i].born) c')), b, ?_, ?_, ⟨es', c', _, hm, hne, rfl, ?_, ?_⟩, hb'⟩
      · intro k
        rcases hab k with h | h
        · left
          rw [ha] at h
          simp only [Hp.join] at h ⊢
          by_cases hk : k = it
          · subst hk; simp [Hp.one, hne] at h
          · by_cases hkr : k = r
            · subst hkr; simp [Hp.one] at h
            · simp [Hp.one, hk, hkr]
        · exact .inr h
      · funext k
        show (w1.heap.setIfInBounds it _)[k]? = _
        rw [hh]
        by_cases hk : k = it
        · subst hk; simp [Hp.join, Hp.one, hne, hsz]
        · rw [Array.getElem?_setIfInBounds_ne (Ne.symm hk)]
          have : hp w k = Hp.join a b k := by rw [h2]
          have this : w.heap[k]? = Hp.join a b k := this
          rw [this, ha]
          simp only [Hp.join]
          simp [Hp.one, hk]
      · rw [map_eraseIdx', ← hl, ← map_eraseIdx', ← eraseIdx_filter_born fl i hi hpw]
        generalize fl[i].born = bb
        rw [← hfl, List.filter_filter]
        congr 1
        apply List.filter_congr
        intro e _
        simp [Array.mem_push, Bool.and_comm]
      · rintro s v hcur
        have hs : left[i].1 = s ∧ left[i].2 = v := by injection hcur with h; rw [h]; exact ⟨rfl, rfl⟩
        refine ⟨fl[i], fl[i].born, by simp, ?_, by rw [hkv.1, hs.1], by rw [hkv.2, hs.2]⟩
        have huniq : ∀ x ∈ es'.toList, x.born = fl[i].born → x = fl[i] := by
          intro x hx hb
          obtain ⟨n1, hn1, rfl⟩ := List.mem_iff_getElem.1 hx
          obtain ⟨n2, hn2, h2'⟩ := List.mem_iff_getElem.1 hmem.1
          rw [← h2'] at hb ⊢
          have := List.pairwise_iff_getElem.1 hm.born
          rcases Nat.lt_trichotomy n1 n2 with h | h | h
          · have := this n1 n2 hn1 hn2 h; omega
          · subst h; rfl
          · have := this n2 n1 hn2 hn1 h; omega
        cases hfind : es'.toList.find? (fun e => e.born == fl[i].born) with
        | none =>
          have := List.find?_eq_none.1 hfind _ hmem.1
          simp at this
        | some x =>
          have hx := List.mem_of_find?_eq_some hfind
          have hb := List.find?_some hfind
          rw [huniq x hx (by simpa using hb)]
/-- The iterator forgotten, the map is a map again. -/
theorem iter_end (m : Mod w w0 (iterA it r L left cur * F)) : Mod w w0 (smap r L * F) := by
  have h := m.says
  rw [sep_assoc] at h
  obtain ⟨a, b, hab, h2, ⟨es, c, seen, hm, hne, ha, _, _⟩, hb⟩ := h
  refine ⟨m.os, m.tape, m.output, ?_⟩
  rw [sep_assoc]
  obtain ⟨f, t, hft, hbj, hf, _⟩ := hb
  have hbi : b it = none := by
    rcases hab it with h | h
    · rw [ha] at h; simp [Hp.join, Hp.one] at h
    · exact h
  have hfi : f it = none := by
    rw [hbj] at hbi
    cases hk : f it with
    | none => rfl
    | some o => simp [Hp.join, hk] at hbi
  refine ⟨Hp.one r (.map es c), Hp.join b (Hp.one it (.mapIter (some r) c seen c)), fun k => ?_, ?_, ⟨es, c, hm, rfl⟩, ⟨f, Hp.join t (Hp.one it (.mapIter (some r) c seen c)), fun k => ?_, ?_, hf, trivial⟩⟩
  · by_cases hk : k = r
    · right
      subst hk
      rcases hab k with h | h
      · rw [ha] at h; simp [Hp.join, Hp.one] at h
      · simp only [Hp.join, h, Option.none_or, Hp.one]; rw [if_neg (fun e => hne e.symm)]
    · left; simp [Hp.one, hk]
  · rw [h2, ha]
    funext k
    simp only [Hp.join, Hp.one]
    by_cases hk : k = r
    · subst hk; simp
    · by_cases hki : k = it
      · subst hki; simp [hk, hbi]
      · simp [hk, hki]
  · rcases hft k with h | h
    · exact .inl h
    · by_cases hki : k = it
      · left; rw [hki]; exact hfi
      · right; simp [Hp.join, h, Hp.one, hki]
  · rw [hbj]; exact Hp.join_assoc _ _ _
theorem wpList_next_smap {ops : Array Oper} {rest : List Oper} {o : Oper} {a : Act} {Q : Exit → Act → World → Prop} (hgd : o.guard = none) (x : Operand) (ho : o.op = .next x false) (hx : a.eval x = .pointer (some ⟨it, 0, none⟩))
    (m : Mod w w0 (iterA it r L left cur * F))
    (h0 : left = [] → ∀ w', Mod w' w0 (iterA it r L [] cur * F) → wpList P ops Q rest (a.put o.dst (.tuple #[.bool false])) w')
    (h1 : ∀ (i : Nat) (hi : i < left.length) (w' : World), Mod w' w0 (iterA it r L (left.eraseIdx i) (some left[i]) * F) → wpList P ops Q rest (a.put o.dst (.tuple #[.bool true, .string left[i].1, left[i].2])) w') : wpList P ops Q (o :: rest) a w :=
  wpList_plain hgd fun _ hK => by
    unfold Oper.wp execOp
    rcases run_next_smap (P := P) m o.type with ⟨hl, w', hrun, hm⟩ | ⟨i, hi, w', hrun, hm⟩
    · simp only [ho, Sem.run_bind, hx, hrun, Result.andThen_ok, Sem.run_pure]
      exact hK _ _ (h0 hl w' hm)
    · simp only [ho, Sem.run_bind, hx, hrun, Result.andThen_ok, Sem.run_pure]
      exact hK _ _ (h1 i hi w' hm)
end
end Go.Sl
