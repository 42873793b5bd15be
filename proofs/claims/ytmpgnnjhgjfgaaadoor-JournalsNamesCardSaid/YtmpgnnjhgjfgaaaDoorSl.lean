/- A small separation logic over the model's heap, for walks: plain definitions and lemmas, under no condition. -/
import Derived.WalkKit
import Derived.Deep.Draws
import Derived.MapKept
namespace Go.Sl
open Go

/-- A part of the heap. -/
abbrev Hp := Nat → Option Obj
def Hp.apart (a b : Hp) : Prop := ∀ k, a k = none ∨ b k = none
def Hp.join (a b : Hp) : Hp := fun k => (a k).or (b k)
def Hp.none : Hp := fun _ => Option.none
def Hp.one (g : Nat) (o : Obj) : Hp := fun k => if k = g then some o else Option.none
/-- What is said of a part of the heap. -/
structure Asn where
  says : Hp → Prop
theorem Asn.ext' {A B : Asn} (h : ∀ x, A.says x ↔ B.says x) : A = B := by
  cases A; cases B; congr; funext x; exact propext (h x)
def sep (A B : Asn) : Asn := ⟨fun h => ∃ a b, Hp.apart a b ∧ h = Hp.join a b ∧ A.says a ∧ B.says b⟩
instance : Mul Asn := ⟨sep⟩
def emp : Asn := ⟨fun h => h = Hp.none⟩
def tru : Asn := ⟨fun _ => True⟩
def blk (g : Nat) (o : Obj) : Asn := ⟨fun h => h = Hp.one g o⟩
/-- just this part -/
def just (x : Hp) : Asn := ⟨fun h => h = x⟩
def ex {α : Sort _} (F : α → Asn) : Asn := ⟨fun h => ∃ a, (F a).says h⟩
def pur (p : Prop) : Asn := ⟨fun h => p ∧ h = Hp.none⟩

theorem sep_says (A B : Asn) (h : Hp) : (A * B).says h ↔ ∃ a b, Hp.apart a b ∧ h = Hp.join a b ∧ A.says a ∧ B.says b := Iff.rfl
theorem Hp.apart_comm {a b : Hp} (h : Hp.apart a b) : Hp.apart b a := fun k => (h k).symm
theorem Hp.join_comm {a b : Hp} (h : Hp.apart a b) : Hp.join a b = Hp.join b a := by
  funext k; unfold Hp.join
  rcases h k with h | h <;> simp [h]
theorem sep_comm (A B : Asn) : A * B = B * A := by
  apply Asn.ext'; intro x; rw [sep_says, sep_says]
  constructor <;> (rintro ⟨a, b, h1, rfl, h2, h3⟩; exact ⟨b, a, Hp.apart_comm h1, Hp.join_comm h1, h3, h2⟩)
theorem Hp.join_assoc (a b c : Hp) : Hp.join (Hp.join a b) c = Hp.join a (Hp.join b c) := by
  funext k; unfold Hp.join; cases a k <;> simp
theorem Hp.apart_join_left {a b c : Hp} : Hp.apart (Hp.join a b) c ↔ Hp.apart a c ∧ Hp.apart b c := by
  unfold Hp.apart Hp.join
  constructor
  · intro h; exact ⟨fun k => by have := h k; cases hk : a k <;> simp_all, fun k => by have := h k; cases hk : a k <;> cases hb : b k <;> simp_all⟩
  · rintro ⟨h1, h2⟩ k; have := h1 k; have := h2 k; cases hk : a k <;> simp_all
theorem Hp.apart_join_right {a b c : Hp} : Hp.apart a (Hp.join b c) ↔ Hp.apart a b ∧ Hp.apart a c := by
  constructor
  · intro h; have := Hp.apart_join_left.1 (Hp.apart_comm h); exact ⟨Hp.apart_comm this.1, Hp.apart_comm this.2⟩
  · rintro ⟨h1, h2⟩; exact Hp.apart_comm (Hp.apart_join_left.2 ⟨Hp.apart_comm h1, Hp.apart_comm h2⟩)
theorem sep_assoc (A B C : Asn) : A * B * C = A * (B * C) := by
  apply Asn.ext'; intro x
  constructor
  · rintro ⟨ab, c, h1, rfl, ⟨a, b, h2, rfl, ha, hb⟩, hc⟩
    have h1' := Hp.apart_join_left.1 h1
    exact ⟨a, Hp.join b c, Hp.apart_join_right.2 ⟨h2, h1'.1⟩, Hp.join_assoc _ _ _, ha, b, c, h1'.2, rfl, hb, hc⟩
  · rintro ⟨a, bc, h1, rfl, ha, b, c, h2, rfl, hb, hc⟩
    have h1' := Hp.apart_join_right.1 h1
    exact ⟨Hp.join a b, c, Hp.apart_join_left.2 ⟨h1'.2, h2⟩, (Hp.join_assoc _ _ _).symm, ⟨a, b, h1'.1, rfl, ha, hb⟩, hc⟩
theorem sep_left_comm (A B C : Asn) : A * (B * C) = B * (A * C) := by rw [← sep_assoc, sep_comm A B, sep_assoc]
instance : Std.Associative (α := Asn) (· * ·) := ⟨sep_assoc⟩
instance : Std.Commutative (α := Asn) (· * ·) := ⟨sep_comm⟩
theorem Hp.join_none (b : Hp) : Hp.join Hp.none b = b := by funext k; simp [Hp.join, Hp.none]
theorem Hp.none_apart (b : Hp) : Hp.apart Hp.none b := fun _ => .inl rfl
theorem emp_sep (A : Asn) : emp * A = A := by
  apply Asn.ext'; intro x
  constructor
  · rintro ⟨a, b, _, rfl, rfl, hb⟩; rw [Hp.join_none]; exact hb
  · intro h; exact ⟨Hp.none, x, Hp.none_apart _, (Hp.join_none _).symm, rfl, h⟩
theorem sep_emp (A : Asn) : A * emp = A := by rw [sep_comm, emp_sep]
theorem pur_sep {p : Prop} {A : Asn} {h : Hp} : (pur p * A).says h ↔ p ∧ A.says h := by
  constructor
  · rintro ⟨a, b, h1, rfl, ⟨hp, rfl⟩, hb⟩; rw [Hp.join_none]; exact ⟨hp, hb⟩
  · rintro ⟨hp, h⟩; exact ⟨Hp.none, _, Hp.none_apart _, (Hp.join_none _).symm, ⟨hp, rfl⟩, h⟩
theorem ex_sep {α : Sort _} {F : α → Asn} {A : Asn} {h : Hp} : (ex F * A).says h ↔ ∃ a, (F a * A).says h := by
  constructor
  · rintro ⟨a, b, h1, h2, ⟨x, hx⟩, hb⟩; exact ⟨x, a, b, h1, h2, hx, hb⟩
  · rintro ⟨x, a, b, h1, h2, hx, hb⟩; exact ⟨a, b, h1, h2, ⟨x, hx⟩, hb⟩
theorem sep_imp {A A' B : Asn} (h : ∀ x, A.says x → A'.says x) {x : Hp} (hx : (A * B).says x) : (A' * B).says x := by
  obtain ⟨a, b, h1, h2, h3, h4⟩ := hx; exact ⟨a, b, h1, h2, h _ h3, h4⟩

/-- The heap of a world as a part. -/
def hp (w : World) : Hp := fun k => w.heap[k]?
/-- World w, come of w0, has a heap of a part of which S says. -/
class Mod (w : World) (w0 : outParam World) (S : outParam Asn) : Prop where
  os : w.os = w0.os
  tape : w.tape = w0.tape
  output : w.output = w0.output
  says : (S * tru).says (hp w)

/-- S knows what block g holds. -/
class Has (S : Asn) (g : Nat) (o : outParam Obj) : Prop where
  has : ∀ h, S.says h → h g = some o
instance Has.blk (g : Nat) (o : Obj) : Has (blk g o) g o := ⟨fun h hh => by rw [hh]; simp [Hp.one]⟩
instance Has.left (A B : Asn) (g : Nat) (o : Obj) [ha : Has A g o] : Has (A * B) g o :=
  ⟨by rintro h ⟨a, b, _, rfl, h1, _⟩; simp [Hp.join, ha.has a h1]⟩
instance Has.right (A B : Asn) (g : Nat) (o : Obj) [hb : Has B g o] : Has (A * B) g o :=
  ⟨by rintro h ⟨a, b, h0, rfl, h1, h2⟩
      have := hb.has b h2
      rcases h0 g with h3 | h3
      · simp [Hp.join, h3, this]
      · rw [h3] at this; cases this⟩
/-- S is pred v beside F. -/
class Take {V : Type} (S : Asn) (pred : V → Asn) (v : outParam V) (F : outParam Asn) : Prop where
  eq : S = pred v * F
instance Take.left {V : Type} (A B F : Asn) (pred : V → Asn) (v : V) [t : Take A pred v F] : Take (A * B) pred v (F * B) := ⟨by rw [t.eq, sep_assoc]⟩
instance Take.right {V : Type} (A B F : Asn) (pred : V → Asn) (v : V) [t : Take B pred v F] : Take (A * B) pred v (A * F) :=
  ⟨by rw [t.eq, ← sep_assoc, sep_comm A, sep_assoc]⟩
instance Take.blk (g : Nat) (o : Obj) : Take (blk g o) (blk g) o emp := ⟨(sep_emp _).symm⟩

section
variable {w w0 : World} {S : Asn}
theorem Mod.fact {g : Nat} {o : Obj} [m : Mod w w0 S] (h : ∀ h, S.says h → h g = some o) : w.heap[g]? = some o := by
  obtain ⟨a, b, _, h2, h3, _⟩ := m.says
  have : hp w g = some o := by rw [h2]; simp [Hp.join, h _ h3]
  exact this
theorem Mod.heap {g : Nat} {o : Obj} [m : Mod w w0 S] [h : Has S g o] : w.heap[g]? = some o := Mod.fact h.has
theorem cell_of {g i : Nat} {cs : Array Value} {t : TypeId} {fr : Nat × Nat} [Mod w w0 S] [Has S g (.cells cs t fr)] : w.cell? ⟨g, i, none⟩ = cs[i]? := by
  have := Mod.heap (w := w) (w0 := w0) (S := S) (g := g) (o := .cells cs t fr)
  simp [World.cell?, this]
theorem frozen_of {g i : Nat} {cs : Array Value} {t : TypeId} [Mod w w0 S] [Has S g (.cells cs t (0, 0))] : w.frozen? ⟨g, i, none⟩ = false := by
  have := Mod.heap (w := w) (w0 := w0) (S := S) (g := g) (o := .cells cs t (0, 0))
  simp [World.frozen?, this]
/-- A change of what is said. -/
theorem Mod.conv {S' : Asn} [m : Mod w w0 S] (h : ∀ x, S.says x → S'.says x) : Mod w w0 S' := ⟨m.os, m.tape, m.output, sep_imp h m.says⟩
theorem Mod.to {S' : Asn} (h : S = S') [m : Mod w w0 S] : Mod w w0 S' := h ▸ m
theorem Mod.drop {A : Asn} [m : Mod w w0 (A * S)] : Mod w w0 S :=
  ⟨m.os, m.tape, m.output, by
    have h := m.says
    rw [sep_comm A S, sep_assoc] at h
    obtain ⟨a, b, h1, h2, h3, _⟩ := h
    exact ⟨a, b, h1, h2, h3, trivial⟩⟩
theorem Mod.dropR {A : Asn} [m : Mod w w0 (S * A)] : Mod w w0 S := by
  have : Mod w w0 (A * S) := by rw [sep_comm]; exact m
  exact Mod.drop (A := A)
theorem Mod.open {α : Sort _} {G : α → Asn} {F : Asn} [m : Mod w w0 (ex G * F)] : ∃ a, Mod w w0 (G a * F) := by
  have h := m.says
  rw [sep_assoc] at h
  obtain ⟨a, h⟩ := ex_sep.1 h
  exact ⟨a, m.os, m.tape, m.output, by rw [sep_assoc]; exact h⟩
theorem Mod.shut {α : Sort _} {G : α → Asn} {F : Asn} (a : α) [m : Mod w w0 (G a * F)] : Mod w w0 (ex G * F) :=
  Mod.conv (S := G a * F) fun _ h => ex_sep.2 ⟨a, h⟩
theorem Mod.openP {p : Prop} {F : Asn} [m : Mod w w0 (pur p * F)] : p ∧ Mod w w0 F := by
  have h := m.says
  rw [sep_assoc] at h
  have h' := pur_sep.1 h
  exact ⟨h'.1, m.os, m.tape, m.output, h'.2⟩
theorem Mod.shutP {p : Prop} {F : Asn} (hp : p) [m : Mod w w0 F] : Mod w w0 (pur p * F) :=
  Mod.conv (S := F) fun _ h => pur_sep.2 ⟨hp, h⟩
instance Mod.drew [m : Mod w w0 S] : Mod w.drew w0 S := ⟨m.os, m.tape, m.output, m.says⟩
instance Mod.drewN (n : Nat) [m : Mod w w0 S] : Mod (w.drewN n) w0 S := ⟨m.os, m.tape, m.output, m.says⟩
theorem hp_alloc (w : World) (o : Obj) : hp (w.alloc o) = Hp.join (Hp.one w.heap.size o) (hp w) ∧ Hp.apart (Hp.one w.heap.size o) (hp w) := by
  constructor
  · funext k
    simp only [hp, World.alloc, Array.getElem?_push, Hp.join, Hp.one]
    split <;> simp_all
  · intro k
    by_cases hk : k = w.heap.size
    · right; subst hk; simp [hp]
    · left; simp [Hp.one, hk]
/-- How many blocks a world has, in the walk's own spelling. -/
class HpSize (w : World) (n : outParam Nat) : Prop where
  eq : w.heap.size = n
instance (priority := 100) HpSize.base (w : World) : HpSize w w.heap.size := ⟨rfl⟩
instance HpSize.alloc (w : World) (n : Nat) (o : Obj) [h : HpSize w n] : HpSize (w.alloc o) (n + 1) := ⟨by simp [h.eq]⟩
instance HpSize.drew (w : World) (n : Nat) [h : HpSize w n] : HpSize w.drew n := ⟨h.eq⟩
instance HpSize.setCell (w : World) (n : Nat) (a : Addr) (v : Value) [h : HpSize w n] : HpSize (w.setCell a v) n := ⟨by simp [h.eq]⟩
instance Mod.alloc (o : Obj) {n : Nat} [hn : HpSize w n] [m : Mod w w0 S] : Mod (w.alloc o) w0 (blk n o * S) :=
  ⟨m.os, m.tape, m.output, by obtain ⟨h1, h2⟩ := hp_alloc w o; rw [h1, sep_assoc, ← hn.eq]; exact ⟨_, _, h2, rfl, rfl, m.says⟩⟩
/-- A step that turns block g alone. -/
theorem Mod.turn {w' : World} {V : Type} {pred : V → Asn} {u u' : V} {F : Asn} {g : Nat} [m : Mod w w0 S] [t : Take S pred u F]
    (h1 : w'.os = w.os) (h2 : w'.tape = w.tape) (h3 : w'.output = w.output) (h4 : ∀ k, k ≠ g → w'.heap[k]? = w.heap[k]?)
    (hown : ∀ h, (pred u).says h → (∀ k, k ≠ g → h k = Option.none) ∧ (h g).isSome = true)
    (hnew : ∀ h, (pred u).says h → w.heap[g]? = h g → (pred u').says (fun k => if k = g then w'.heap[g]? else Option.none)) : Mod w' w0 (pred u' * F) := by
  refine ⟨h1.trans m.os, h2.trans m.tape, h3.trans m.output, ?_⟩
  have hs := m.says
  rw [t.eq, sep_assoc] at hs
  obtain ⟨a, b, ha, hj, hp1, hb⟩ := hs
  obtain ⟨hk, hg⟩ := hown a hp1
  have hbg : b g = Option.none := by
    rcases ha g with h | h
    · rw [h] at hg; cases hg
    · exact h
  have hwg : w.heap[g]? = a g := by
    have : hp w g = a g := by rw [hj]; simp [Hp.join, hbg]
    exact this
  rw [sep_assoc]
  refine ⟨_, b, ?_, ?_, hnew a hp1 hwg, hb⟩
  · intro k
    by_cases hkg : k = g
    · right; rw [hkg]; exact hbg
    · left; simp [hkg]
  · funext k
    by_cases hkg : k = g
    · subst hkg; simp [hp, Hp.join, hbg]
    · have e : hp w k = b k := by rw [hj]; simp [Hp.join, hk k hkg]
      simp only [hp, Hp.join, if_neg hkg, Option.none_or]
      rw [h4 k hkg]; exact e
theorem heap_setCell_ne (w : World) (a : Addr) (v : Value) (k : Nat) (h : k ≠ a.block) : (w.setCell a v).heap[k]? = w.heap[k]? := Go.RowKit.Below.heap_setCell w a v k h
instance Mod.setCells {g i : Nat} {cs : Array Value} {ty : TypeId} {fr : Nat × Nat} {F : Asn} (v : Value) [m : Mod w w0 S] [t : Take S (blk g) (.cells cs ty fr) F] :
    Mod (w.setCell ⟨g, i, none⟩ v) w0 (blk g (.cells (cs.setIfInBounds i v) ty fr) * F) :=
  Mod.turn (w := w) (g := g) (u := Obj.cells cs ty fr) (pred := blk g) rfl rfl rfl (fun k hk => heap_setCell_ne _ _ _ _ hk)
    (fun h hh => by rw [hh]; exact ⟨fun k hk => by simp [Hp.one, hk], by simp [Hp.one]⟩)
    (fun h hh hw => by
      rw [hh] at hw
      simp [Hp.one] at hw
      show _ = _
      funext k
      by_cases hk : k = g
      · subst hk; simp [Hp.one, World.setCell, Array.getElem?_modify, hw]
      · simp [Hp.one, hk])
end

/-! ### Maps with text keys -/
abbrev Pairs := List (ByteArray × Value)
structure MapOk (es : Array MapEntry) (clock : Nat) (L : Pairs) : Prop where
  keys : es.toList.map (fun e => (e.key, e.val)) = L.map (fun p => (Value.string p.1, p.2))
  born : es.toList.Pairwise (fun a b => a.born < b.born)
  lt : ∀ e ∈ es.toList, e.born < clock
  nodup : (L.map (·.1)).Nodup
/-- Block r is a map with just these entries, in the order in which they came. -/
def smap (r : Nat) (L : Pairs) : Asn := ⟨fun h => ∃ es clock, MapOk es clock L ∧ h = Hp.one r (.map es clock)⟩
def mget {α : Type} (L : List (ByteArray × α)) (s : ByteArray) : Option α := (L.find? (fun p => decide (p.1 = s))).map (·.2)
def mput {α : Type} (L : List (ByteArray × α)) (s : ByteArray) (v : α) : List (ByteArray × α) :=
  if L.any (fun p => decide (p.1 = s)) then L.map (fun p => if p.1 = s then (p.1, v) else p) else L ++ [(s, v)]
def mdel {α : Type} (L : List (ByteArray × α)) (s : ByteArray) : List (ByteArray × α) := L.filter (fun p => !decide (p.1 = s))
class HasMap (S : Asn) (r : Nat) (L : outParam Pairs) : Prop where
  has : ∀ h, S.says h → ∃ es clock, MapOk es clock L ∧ h r = some (.map es clock)
instance HasMap.smap (r : Nat) (L : Pairs) : HasMap (smap r L) r L := ⟨fun h ⟨es, c, hm, hh⟩ => ⟨es, c, hm, by rw [hh]; simp [Hp.one]⟩⟩
instance HasMap.left (A B : Asn) (r : Nat) (L : Pairs) [ha : HasMap A r L] : HasMap (A * B) r L :=
  ⟨by
    rintro h ⟨a, b, _, rfl, h1, _⟩
    obtain ⟨es, c, hm, hh⟩ := ha.has a h1
    exact ⟨es, c, hm, by simp [Hp.join, hh]⟩⟩
instance HasMap.right (A B : Asn) (r : Nat) (L : Pairs) [hb : HasMap B r L] : HasMap (A * B) r L :=
  ⟨by
    rintro h ⟨a, b, h0, rfl, h1, h2⟩
    obtain ⟨es, c, hm, hh⟩ := hb.has b h2
    refine ⟨es, c, hm, ?_⟩
    rcases h0 r with h3 | h3
    · simp [Hp.join, h3, hh]
    · rw [h3] at hh; cases hh⟩
instance Take.smap (r : Nat) (L : Pairs) : Take (smap r L) (smap r) L emp := ⟨(sep_emp _).symm⟩
theorem MapOk.made : MapOk #[] 0 [] := ⟨rfl, by simp, by simp, by simp⟩
theorem says_smap_made (r : Nat) : (smap r []).says (Hp.one r (.map #[] 0)) := ⟨#[], 0, MapOk.made, rfl⟩
instance (priority := 2000) Mod.allocMap {w w0 : World} {S : Asn} {n : Nat} [hn : HpSize w n] [m : Mod w w0 S] : Mod (w.alloc (.map #[] 0)) w0 (smap n [] * S) := by
  have h : Mod (w.alloc (.map #[] 0)) w0 (blk n (.map #[] 0) * S) := inferInstance
  exact Mod.conv (S := blk n (.map #[] 0) * S) fun x hx => sep_imp (fun y hy => by rw [show y = Hp.one n (.map #[] 0) from hy]; exact says_smap_made _) hx

def _root_.Go.Program.mapKey (P : Program) (t : TypeId) : TypeId := match P.underlying t with | some (.map k _) => k | _ => 0
def _root_.Go.Program.mapElem (P : Program) (t : TypeId) : TypeId := match P.underlying t with | some (.map _ e) => e | _ => 0
def _root_.Go.Program.zeroOf (P : Program) (t : TypeId) : Value := ((P.info? t).bind (·.zero)).getD undef
/-- What a walk wants to know of a map's type, once for a type. -/
class SMap (P : Program) (t : TypeId) : Prop where
  map : P.underlying t = some (.map (P.mapKey t) (P.mapElem t))
  key : P.underlying (P.mapKey t) = some .string
  zero : ∀ w, (zeroValue (P.mapElem t)).run P w = .ok (P.zeroOf (P.mapElem t)) w

section
variable {P : Program} {w w0 : World} {S : Asn} {t : TypeId} {r : Nat} {L : Pairs}
theorem mapBlock (w : World) [m : Mod w w0 S] [h : HasMap S r L] : ∃ es clock, MapOk es clock L ∧ w.heap[r]? = some (.map es clock) := by
  obtain ⟨a, b, _, h2, h3, _⟩ := m.says
  obtain ⟨es, c, hm, hh⟩ := h.has a h3
  refine ⟨es, c, hm, ?_⟩
  have : hp w r = some (.map es c) := by rw [h2]; simp [Hp.join, hh]
  exact this
theorem run_getObj_at {o : Obj} (h : w.heap[r]? = some o) (hc : ∀ c e f, o ≠ .cells c e f) : (getObj r).run P w = .ok o w := by
  cases o <;> simp [getObj, Sem.run, h] <;> exact absurd rfl (hc _ _ _)
theorem run_setObj_at {o o' : Obj} (h : w.heap[r]? = some o) (hc : ∀ c e f, o ≠ .cells c e f) : (setObj r o').run P w = .ok () { w with heap := w.heap.setIfInBounds r o' } := by
  cases o <;> simp [setObj, Sem.run, h] <;> exact absurd rfl (hc _ _ _)
theorem findNow_string (s : ByteArray) : ∀ (es : List MapEntry) (L : Pairs) (i : Nat), es.map (fun e => (e.key, e.val)) = L.map (fun p => (Value.string p.1, p.2)) →
    Instr.findNow .string (.string s) es i = some ((L.findIdx? (fun p => decide (p.1 = s))).bind fun j => (L[j]?).map fun p => (i + j, p.2))
  | [], L, i, h => by
    have : L = [] := by cases L; rfl; simp at h
    subst this; simp [Instr.findNow]
  | e :: es, [], i, h => by simp at h
  | e :: es, p :: L, i, h => by
    simp only [List.map_cons, List.cons.injEq, Prod.mk.injEq] at h
    obtain ⟨⟨hk, hv⟩, hr⟩ := h
    have ih := findNow_string s es L (i + 1) hr
    simp only [Instr.findNow, hk, Instr.sameNow, List.findIdx?_cons]
    by_cases hs : p.1 = s
    · have h1 : (s == p.1) = true := (MapKept.bytes_beq _ _).2 hs.symm
      simp only [h1]
      simp [hs, hv]
    · have h1 : (s == p.1) = false := by
        cases h : (s == p.1) with
        | false => rfl
        | true => exact absurd ((MapKept.bytes_beq _ _).1 h).symm hs
      simp only [h1, hs, decide_false]
      rw [ih]
      cases hf : L.findIdx? (fun p => decide (p.1 = s)) with
      | none => simp
      | some j => simp [Nat.add_assoc, Nat.add_comm 1 j]
theorem mget_findIdx (L : Pairs) (s : ByteArray) : mget L s = (L.findIdx? (fun p => decide (p.1 = s))).bind fun j => (L[j]?).map (·.2) := by
  unfold mget
  induction L with
  | nil => simp
  | cons p L ih =>
    simp only [List.find?_cons, List.findIdx?_cons]
    by_cases hs : p.1 = s
    · simp [hs]
    · simp only [hs, ih, decide_false]
      cases hf : L.findIdx? (fun p => decide (p.1 = s)) <;> simp
theorem run_find {s : ByteArray} [T : SMap P t] {es : Array MapEntry} {c : Nat} (hm : MapOk es c L) (w : World) :
    (Instr.findKey (P.mapKey t) (.string s) es.toList).run P w = .ok ((L.findIdx? (fun p => decide (p.1 = s))).bind fun j => (L[j]?).map fun p => (j, p.2)) w := by
  have := findNow_string s es.toList L 0 hm.keys
  simp only [Nat.zero_add] at this
  exact MapKept.run_findKey T.key this
theorem run_check {s : ByteArray} [T : SMap P t] (b : Bool) (w : World) : (Instr.checkKey b 10000 (P.mapKey t) (.string s)).run P w = .ok () w :=
  MapKept.run_checkKey (d := .string) T.key (by trivial) b 9999
@[go_sem] theorem run_lookup_sok (s : ByteArray) [Mod w w0 S] [HasMap S r L] [T : SMap P t] :
    (Instr.lookup t (.map (some r)) (.string s) true).run P w = .ok (.tuple #[(mget L s).getD (P.zeroOf (P.mapElem t)), .bool (mget L s).isSome]) w := by
  obtain ⟨es, c, hm, hw⟩ := mapBlock (w0 := w0) (S := S) (r := r) (L := L) w
  have h1 := run_find (P := P) (t := t) (s := s) hm w
  have hl := mget_findIdx L s
  cases hf : L.findIdx? (fun p => decide (p.1 = s)) with
  | none => rw [hf] at h1 hl; simp [Instr.lookup, run_underlying T.map, run_getObj_at hw, run_check, h1, T.zero, hl]
  | some j =>
    rw [hf] at h1 hl
    obtain ⟨hj, _⟩ := List.findIdx?_eq_some_iff_getElem.1 hf
    have hj' : L[j]? = some L[j] := List.getElem?_eq_getElem hj
    simp [hj'] at h1 hl
    simp [Instr.lookup, run_underlying T.map, run_getObj_at hw, run_check, h1, hl]
@[go_sem] theorem run_lookup_s (s : ByteArray) [Mod w w0 S] [HasMap S r L] [T : SMap P t] :
    (Instr.lookup t (.map (some r)) (.string s) false).run P w = .ok ((mget L s).getD (P.zeroOf (P.mapElem t))) w := by
  obtain ⟨es, c, hm, hw⟩ := mapBlock (w0 := w0) (S := S) (r := r) (L := L) w
  have h1 := run_find (P := P) (t := t) (s := s) hm w
  have hl := mget_findIdx L s
  cases hf : L.findIdx? (fun p => decide (p.1 = s)) with
  | none => rw [hf] at h1 hl; simp [Instr.lookup, run_underlying T.map, run_getObj_at hw, run_check, h1, T.zero, hl]
  | some j =>
    rw [hf] at h1 hl
    obtain ⟨hj, _⟩ := List.findIdx?_eq_some_iff_getElem.1 hf
    have hj' : L[j]? = some L[j] := List.getElem?_eq_getElem hj
    simp [hj'] at h1 hl
    simp [Instr.lookup, run_underlying T.map, run_getObj_at hw, run_check, h1, hl]
@[go_sem] theorem run_len_smap (ty : TypeId) [Mod w w0 S] [HasMap S r L] [T : SMap P t] : (Builtin.len_ #[t] ty #[.map (some r)]).run P w = .ok (goInt L.length) w := by
  obtain ⟨es, c, hm, hw⟩ := mapBlock (w0 := w0) (S := S) (r := r) (L := L) w
  have hl : es.size = L.length := by have := congrArg List.length hm.keys; simpa using this
  simp [Builtin.len_, run_underlying T.map, run_getObj_at hw, hl]
/-- The world behind a store into a map with text keys. -/
def _root_.Go.World.mapPut (w : World) (r : Nat) (s : ByteArray) (v : Value) : World :=
  match w.heap[r]? with
  | some (.map es clock) =>
    { w with heap := w.heap.setIfInBounds r (match Instr.findNow .string (.string s) es.toList 0 with
      | some (some (i, _)) => .map (es.modify i fun e => { e with key := .string s, val := v }) clock
      | _ => .map (es.push { key := .string s, val := v, born := clock }) (clock + 1)) }
  | _ => w
def _root_.Go.World.mapDel (w : World) (r : Nat) (s : ByteArray) : World :=
  match w.heap[r]? with
  | some (.map es clock) =>
    { w with heap := w.heap.setIfInBounds r (match Instr.findNow .string (.string s) es.toList 0 with
      | some (some (i, _)) => .map (es.eraseIdxIfInBounds i) clock
      | _ => .map es clock) }
  | _ => w
@[simp] theorem size_mapPut (w : World) (r : Nat) (s : ByteArray) (v : Value) : (w.mapPut r s v).heap.size = w.heap.size := by
  unfold World.mapPut; split <;> simp
@[simp] theorem size_mapDel (w : World) (r : Nat) (s : ByteArray) : (w.mapDel r s).heap.size = w.heap.size := by
  unfold World.mapDel; split <;> simp
instance HpSize.mapPut (w : World) (n r : Nat) (s : ByteArray) (v : Value) [h : HpSize w n] : HpSize (w.mapPut r s v) n := ⟨by simp [h.eq]⟩
instance HpSize.mapDel (w : World) (n r : Nat) (s : ByteArray) [h : HpSize w n] : HpSize (w.mapDel r s) n := ⟨by simp [h.eq]⟩
theorem entry_at {es : Array MapEntry} {c : Nat} (hm : MapOk es c L) {j : Nat} (hj : j < L.length) : ∃ e, es[j]? = some e ∧ e.key = .string L[j].1 ∧ e.val = L[j].2 := by
  have hl : es.size = L.length := by have := congrArg List.length hm.keys; simpa using this
  refine ⟨es[j], by simp [hl, hj], ?_⟩
  have := congrArg (fun l => l[j]?) hm.keys
  simp [hl, hj] at this
  exact this
theorem run_mapUpdate_s (s : ByteArray) (v : Value) [Mod w w0 S] [HasMap S r L] [T : SMap P t] :
    (Instr.mapUpdate t (.map (some r)) (.string s) v).run P w = .ok () (w.mapPut r s v) := by
  obtain ⟨es, c, hm, hw⟩ := mapBlock (w0 := w0) (S := S) (r := r) (L := L) w
  have h1 := run_find (P := P) (t := t) (s := s) hm w
  have h0 := findNow_string s es.toList L 0 hm.keys
  simp only [Nat.zero_add] at h0
  cases hf : L.findIdx? (fun p => decide (p.1 = s)) with
  | none =>
    rw [hf] at h1 h0
    simp [Instr.mapUpdate, run_underlying T.map, run_getObj_at hw, run_check, h1, World.mapPut, hw, h0, run_setObj_at hw]
  | some j =>
    rw [hf] at h1 h0
    obtain ⟨hj, hk, _⟩ := List.findIdx?_eq_some_iff_getElem.1 hf
    have hj' : L[j]? = some L[j] := List.getElem?_eq_getElem hj
    obtain ⟨e, he, hek, hev⟩ := entry_at hm hj
    have hks : L[j].1 = s := by simpa using hk
    simp [hj'] at h1 h0
    have hst : (Instr.keyThatStays (.string L[j].1) (.string s)).run P w = .ok (.string s) w := by
      rw [hks]; simp [Instr.keyThatStays, Instr.sameBits, (MapKept.bytes_beq s s).2 rfl]
    simp [Instr.mapUpdate, run_underlying T.map, run_getObj_at hw, run_check, h1, World.mapPut, hw, h0, run_setObj_at hw, he, hek, hst]
attribute [go_sem] run_mapUpdate_s
theorem run_delete_s (ty kt : TypeId) (s : ByteArray) [Mod w w0 S] [HasMap S r L] [T : SMap P t] :
    (Builtin.delete_ #[t, kt] ty #[.map (some r), .string s]).run P w = .ok (.tuple #[]) (w.mapDel r s) := by
  obtain ⟨es, c, hm, hw⟩ := mapBlock (w0 := w0) (S := S) (r := r) (L := L) w
  have h1 := run_find (P := P) (t := t) (s := s) hm w
  have h0 := findNow_string s es.toList L 0 hm.keys
  simp only [Nat.zero_add] at h0
  cases hf : L.findIdx? (fun p => decide (p.1 = s)) with
  | none =>
    rw [hf] at h1 h0
    simp [Builtin.delete_, run_underlying T.map, run_getObj_at hw, run_check, h1, World.mapDel, hw, h0, run_setObj_at hw]
  | some j =>
    rw [hf] at h1 h0
    obtain ⟨hj, hk, _⟩ := List.findIdx?_eq_some_iff_getElem.1 hf
    have hj' : L[j]? = some L[j] := List.getElem?_eq_getElem hj
    simp [hj'] at h1 h0
    simp [Builtin.delete_, run_underlying T.map, run_getObj_at hw, run_check, h1, World.mapDel, hw, h0, run_setObj_at hw]
attribute [go_sem] run_delete_s
@[go_sem] theorem run_makeMap_s : (Instr.makeMap t none).run P w = .ok (.map (some w.heap.size)) (w.alloc (.map #[] 0)) := by
  simp [Instr.makeMap]

/-- Each element turned, the keys kept. -/
def onVals {α β : Type} (f : α → β) (L : List (ByteArray × α)) : List (ByteArray × β) := L.map fun p => (p.1, f p.2)
theorem mget_onVals {α β : Type} (f : α → β) (L : List (ByteArray × α)) (s : ByteArray) : mget (onVals f L) s = (mget L s).map f := by
  unfold mget onVals
  rw [List.find?_map, Option.map_map, Option.map_map]
  rfl
theorem mput_onVals {α β : Type} (f : α → β) (L : List (ByteArray × α)) (s : ByteArray) (v : α) : mput (onVals f L) s (f v) = onVals f (mput L s v) := by
  unfold mput onVals
  have h : (L.map fun p => (p.1, f p.2)).any (fun p => decide (p.1 = s)) = L.any (fun p => decide (p.1 = s)) := by rw [List.any_map]; rfl
  rw [h]
  split
  · simp only [List.map_map]
    apply List.map_congr_left
    intro p _
    simp only [Function.comp]
    split <;> rfl
  · simp
theorem mdel_onVals {α β : Type} (f : α → β) (L : List (ByteArray × α)) (s : ByteArray) : mdel (onVals f L) s = onVals f (mdel L s) := by
  unfold mdel onVals
  rw [List.filter_map]
  rfl
theorem length_onVals {α β : Type} (f : α → β) (L : List (ByteArray × α)) : (onVals f L).length = L.length := by simp [onVals]
theorem map_eraseIdx' {α β : Type} (f : α → β) : ∀ (l : List α) (j : Nat), (l.eraseIdx j).map f = (l.map f).eraseIdx j
  | [], _ => by simp
  | _ :: _, 0 => by simp
  | a :: l, j + 1 => by simp [map_eraseIdx' f l j]
theorem keys_modify {es : Array MapEntry} {j : Nat} {s : ByteArray} {v : Value} (hj : j < L.length) (hk : es.toList.map (fun e => (e.key, e.val)) = L.map (fun p => (Value.string p.1, p.2)))
    (hs : L[j].1 = s) : (es.modify j fun e => { e with key := .string s, val := v }).toList.map (fun e => (e.key, e.val)) = (L.modify j fun p => (p.1, v)).map (fun p => (Value.string p.1, p.2)) := by
  have hl : es.size = L.length := by have := congrArg List.length hk; simpa using this
  apply List.ext_getElem?
  intro i
  have hi := congrArg (fun l => l[i]?) hk
  simp only [List.getElem?_map, Array.getElem?_toList] at hi
  simp only [List.getElem?_map, Array.getElem?_toList, Array.getElem?_modify, List.getElem?_modify]
  by_cases hij : j = i
  · subst hij
    simp [hl, hj, hs]
  · simp only [if_neg hij]
    cases h1 : es[i]? <;> cases h2 : L[i]? <;> simp_all
theorem put_modify {s : ByteArray} {v : Value} {j : Nat} (hn : (L.map (·.1)).Nodup) (hj : j < L.length) (hs : L[j].1 = s) : mput L s v = L.modify j fun p => (p.1, v) := by
  unfold mput
  rw [if_pos (List.any_eq_true.2 ⟨L[j], List.getElem_mem hj, by simp [hs]⟩)]
  apply List.ext_getElem?
  intro i
  simp only [List.getElem?_map, List.getElem?_modify]
  by_cases hij : j = i
  · subst hij; simp [hj, hs]
  · simp only [if_neg hij]
    cases h2 : L[i]? with
    | none => simp
    | some p =>
      obtain ⟨hi, rfl⟩ := List.getElem?_eq_some_iff.1 h2
      have hne : L[i].1 ≠ s := by
        intro he
        have := List.getElem_inj (h₀ := by simpa using hj) (h₁ := by simpa using hi) hn
        simp only [List.getElem_map] at this
        exact hij (this.1 (hs.trans he.symm))
      simp [hne]
theorem keys_put (L : Pairs) (s : ByteArray) (v : Value) (h : L.any (fun p => decide (p.1 = s)) = true) : (mput L s v).map (·.1) = L.map (·.1) := by
  unfold mput
  rw [if_pos h, List.map_map]
  apply List.map_congr_left
  intro p _
  simp only [Function.comp]
  split <;> rfl
theorem any_of_find {s : ByteArray} {j : Nat} (hj : j < L.length) (hs : L[j].1 = s) : L.any (fun p => decide (p.1 = s)) = true := by
  exact List.any_eq_true.2 ⟨L[j], List.getElem_mem hj, by simp [hs]⟩
theorem MapOk.put {es : Array MapEntry} {c : Nat} (hm : MapOk es c L) (s : ByteArray) (v : Value) :
    ∃ es' c', (match Instr.findNow .string (.string s) es.toList 0 with
      | some (some (i, _)) => Obj.map (es.modify i fun e => { e with key := .string s, val := v }) c
      | _ => .map (es.push { key := .string s, val := v, born := c }) (c + 1)) = .map es' c' ∧ MapOk es' c' (mput L s v) := by
  have h0 := findNow_string s es.toList L 0 hm.keys
  simp only [Nat.zero_add] at h0
  cases hf : L.findIdx? (fun p => decide (p.1 = s)) with
  | none =>
    rw [hf] at h0
    simp only [Option.bind_none] at h0
    rw [h0]
    have hany : L.any (fun p => decide (p.1 = s)) = false := by
      rw [List.findIdx?_eq_none_iff] at hf
      rw [List.any_eq_false]
      intro p hp; simpa using hf p hp
    have hput : Sl.mput L s v = L ++ [(s, v)] := by unfold Sl.mput; rw [if_neg (by rw [hany]; simp)]
    refine ⟨_, _, rfl, ?_⟩
    rw [hput]
    refine ⟨by simp [hm.keys], ?_, ?_, ?_⟩
    · simp only [Array.toList_push]
      rw [List.pairwise_append]
      exact ⟨hm.born, by simp, fun a ha b hb => by simp at hb; subst hb; exact hm.lt a ha⟩
    · intro e he
      simp only [Array.toList_push, List.mem_append, List.mem_singleton] at he
      rcases he with he | rfl
      · have := hm.lt e he; omega
      · simp
    · rw [List.map_append, List.nodup_append]
      refine ⟨hm.nodup, by simp, ?_⟩
      intro a ha b hb
      simp at hb; subst hb
      rintro rfl
      rw [List.mem_map] at ha
      obtain ⟨p, hp, rfl⟩ := ha
      rw [List.any_eq_false] at hany
      exact hany p hp (by simp)
  | some j =>
    rw [hf] at h0
    obtain ⟨hj, hk, _⟩ := List.findIdx?_eq_some_iff_getElem.1 hf
    have hj' : L[j]? = some L[j] := List.getElem?_eq_getElem hj
    have hks : L[j].1 = s := by simpa using hk
    simp only [Option.bind_some, hj', Option.map_some] at h0
    rw [h0]
    refine ⟨_, _, rfl, ?_⟩
    have hput := put_modify (v := v) hm.nodup hj hks
    refine ⟨by rw [hput]; exact keys_modify hj hm.keys hks, ?_, ?_, by rw [keys_put L s v (any_of_find hj hks)]; exact hm.nodup⟩
    · have e : (es.modify j fun e => { e with key := .string s, val := v }).toList.map (·.born) = es.toList.map (·.born) := by
        apply List.ext_getElem?; intro i
        simp only [List.getElem?_map, Array.getElem?_toList, Array.getElem?_modify]
        split
        · cases es[i]? <;> simp
        · rfl
      have := hm.born
      have h1 : (es.toList.map (·.born)).Pairwise (· < ·) := List.pairwise_map.2 this
      rw [← e] at h1
      exact List.pairwise_map.1 h1
    · intro e he
      rw [List.mem_iff_getElem?] at he
      obtain ⟨i, hi⟩ := he
      simp only [Array.getElem?_toList, Array.getElem?_modify] at hi
      split at hi
      · cases h2 : es[i]? with
        | none => rw [h2] at hi; simp at hi
        | some x =>
          rw [h2] at hi
          simp at hi
          subst hi
          exact hm.lt x (List.mem_of_getElem? (by rw [Array.getElem?_toList]; exact h2))
      · exact hm.lt e (List.mem_of_getElem? (by rw [Array.getElem?_toList]; exact hi))
theorem MapOk.del {es : Array MapEntry} {c : Nat} (hm : MapOk es c L) (s : ByteArray) :
    ∃ es' c', (match Instr.findNow .string (.string s) es.toList 0 with
      | some (some (i, _)) => Obj.map (es.eraseIdxIfInBounds i) c
      | _ => .map es c) = .map es' c' ∧ MapOk es' c' (mdel L s) := by
  have h0 := findNow_string s es.toList L 0 hm.keys
  simp only [Nat.zero_add] at h0
  cases hf : L.findIdx? (fun p => decide (p.1 = s)) with
  | none =>
    rw [hf] at h0
    simp only [Option.bind_none] at h0
    rw [h0]
    have hd : Sl.mdel L s = L := by
      unfold Sl.mdel
      rw [List.filter_eq_self]
      rw [List.findIdx?_eq_none_iff] at hf
      intro p hp; simpa using hf p hp
    exact ⟨_, _, rfl, by rw [hd]; exact hm⟩
  | some j =>
    rw [hf] at h0
    obtain ⟨hj, hk, _⟩ := List.findIdx?_eq_some_iff_getElem.1 hf
    have hj' : L[j]? = some L[j] := List.getElem?_eq_getElem hj
    have hks : L[j].1 = s := by simpa using hk
    simp only [Option.bind_some, hj', Option.map_some] at h0
    rw [h0]
    have hl : es.size = L.length := by have := congrArg List.length hm.keys; simpa using this
    have hes : (es.eraseIdxIfInBounds j).toList = es.toList.eraseIdx j := by
      rw [Array.eraseIdxIfInBounds, dif_pos (by omega)]
      simp [Array.toList_eraseIdx]
    have hd : Sl.mdel L s = L.eraseIdx j := by
      unfold Sl.mdel
      have hsub : ∀ (l : Pairs) (j : Nat) (hj : j < l.length), (l.map (·.1)).Nodup → l[j].1 = s → l.filter (fun p => !decide (p.1 = s)) = l.eraseIdx j := by
        intro l
        induction l with
        | nil => intro j hj; simp at hj
        | cons p l ih =>
          intro j hj hn hs
          rw [List.map_cons, List.nodup_cons] at hn
          cases j with
          | zero =>
            simp only [List.getElem_cons_zero] at hs
            simp only [List.eraseIdx_zero, List.tail_cons]
            rw [List.filter_cons, if_neg (by simp [hs]), List.filter_eq_self]
            intro q hq
            have : q.1 ≠ s := fun e => hn.1 (by rw [hs, ← e]; exact List.mem_map_of_mem hq)
            simp [this]
          | succ j =>
            simp only [List.getElem_cons_succ] at hs
            have hj2 : j < l.length := by simpa using hj
            have hne : p.1 ≠ s := fun e => hn.1 (by rw [e, ← hs]; exact List.mem_map_of_mem (List.getElem_mem hj2))
            rw [List.filter_cons, if_pos (by simp [hne]), List.eraseIdx_cons_succ, ih j hj2 hn.2 hs]
      exact hsub L j hj hm.nodup hks
    refine ⟨_, _, rfl, ?_⟩
    rw [hd]
    refine ⟨by rw [hes, map_eraseIdx', hm.keys, ← map_eraseIdx'], ?_, ?_, ?_⟩
    · rw [hes]; exact hm.born.sublist (List.eraseIdx_sublist _ _)
    · rw [hes]; exact fun e he => hm.lt e ((List.eraseIdx_sublist _ _).subset he)
    · rw [map_eraseIdx']; exact hm.nodup.sublist (List.eraseIdx_sublist _ _)
theorem smap_turn {F : Asn} {L' : Pairs} {w' : World} [m : Mod w w0 S] [tk : Take S (smap r) L F] (h1 : w'.os = w.os) (h2 : w'.tape = w.tape) (h3 : w'.output = w.output)
    (h : ∀ es c, MapOk es c L → w.heap[r]? = some (.map es c) → ∃ es' c', w'.heap = w.heap.setIfInBounds r (.map es' c') ∧ MapOk es' c' L') : Mod w' w0 (smap r L' * F) := by
  have hb : HasMap S r L := by rw [tk.eq]; infer_instance
  obtain ⟨es, c, hm, hw⟩ := mapBlock (w0 := w0) (S := S) (r := r) (L := L) w
  obtain ⟨es', c', hh, hm'⟩ := h es c hm hw
  have hr : r < w.heap.size := (Array.getElem?_eq_some_iff.1 hw).1
  refine Mod.turn (w := w) (g := r) (pred := smap r) (u := L) h1 h2 h3 (fun k hk => ?_) (fun x ⟨es, c, _, hx⟩ => ?_) (fun x ⟨es, c, _, hx⟩ _ => ?_)
  · rw [hh, Array.getElem?_setIfInBounds_ne (Ne.symm hk)]
  · rw [hx]; exact ⟨fun k hk => by simp [Hp.one, hk], by simp [Hp.one]⟩
  · refine ⟨es', c', hm', ?_⟩
    funext k
    by_cases hk : k = r
    · subst hk; simp [Hp.one, hh, hr]
    · simp [Hp.one, hk]
instance Mod.mapPut {F : Asn} {s : ByteArray} {v : Value} [m : Mod w w0 S] [tk : Take S (smap r) L F] : Mod (w.mapPut r s v) w0 (smap r (mput L s v) * F) := by
  have hb : HasMap S r L := by rw [tk.eq]; infer_instance
  obtain ⟨es, c, hm, hw⟩ := mapBlock (w0 := w0) (S := S) (r := r) (L := L) w
  refine smap_turn (w := w) (L := L) (F := F) ?_ ?_ ?_ (fun es c hm hw => ?_)
  · simp [World.mapPut, hw]
  · simp [World.mapPut, hw]
  · simp [World.mapPut, hw]
  · obtain ⟨es', c', h1, h2⟩ := hm.put s v
    exact ⟨es', c', by simp only [World.mapPut, hw]; rw [← h1], h2⟩
instance Mod.mapDel {F : Asn} {s : ByteArray} [m : Mod w w0 S] [tk : Take S (smap r) L F] : Mod (w.mapDel r s) w0 (smap r (mdel L s) * F) := by
  have hb : HasMap S r L := by rw [tk.eq]; infer_instance
  obtain ⟨es, c, hm, hw⟩ := mapBlock (w0 := w0) (S := S) (r := r) (L := L) w
  refine smap_turn (w := w) (L := L) (F := F) ?_ ?_ ?_ (fun es c hm hw => ?_)
  · simp [World.mapDel, hw]
  · simp [World.mapDel, hw]
  · simp [World.mapDel, hw]
  · obtain ⟨es', c', h1, h2⟩ := hm.del s
    exact ⟨es', c', by simp only [World.mapDel, hw]; rw [← h1], h2⟩
end

/-! ### Less is said -/
class Sub (S F : Asn) : Prop where
  sub : ∀ x, (S * tru).says x → (F * tru).says x
instance Sub.refl (S : Asn) : Sub S S := ⟨fun _ h => h⟩
instance Sub.left (A B F : Asn) [s : Sub A F] : Sub (A * B) F := ⟨fun x h => by
  rw [sep_assoc] at h
  obtain ⟨a, b, h1, h2, h3, h4⟩ := h
  refine s.sub x ⟨a, b, h1, h2, h3, trivial⟩⟩
instance Sub.right (A B F : Asn) [s : Sub B F] : Sub (A * B) F := ⟨fun x h => by
  rw [sep_comm A B, sep_assoc] at h
  obtain ⟨a, b, h1, h2, h3, h4⟩ := h
  refine s.sub x ⟨a, b, h1, h2, h3, trivial⟩⟩
theorem Mod.sub {w w0 : World} {S : Asn} (F : Asn) [m : Mod w w0 S] [s : Sub S F] : Mod w w0 F := ⟨m.os, m.tape, m.output, s.sub _ m.says⟩
theorem Mod.start (w : World) : Mod w w (just (hp w)) :=
  ⟨rfl, rfl, rfl, hp w, Hp.none, fun _ => .inr rfl, by funext k; simp [Hp.join, Hp.none], rfl, trivial⟩
theorem Mod.below {w w' w0 : World} {S : Asn} [m : Mod w w0 S] (h : Go.RowKit.Below w.heap.size w w') : Mod w' w0 S := by
  refine ⟨h.os.trans m.os, h.tape.trans m.tape, h.output.trans m.output, ?_⟩
  obtain ⟨a, b, h1, h2, h3, _⟩ := m.says
  have hw : ∀ k, k < w.heap.size → hp w' k = hp w k := fun k hk => h.block k hk
  have hn : ∀ k, w.heap.size ≤ k → hp w k = none := fun k hk => Array.getElem?_eq_none hk
  refine ⟨a, fun k => if k < w.heap.size then b k else hp w' k, fun k => ?_, ?_, h3, trivial⟩
  · by_cases hk : k < w.heap.size
    · simp only [hk, if_true]; exact h1 k
    · left
      have := hn k (by omega)
      rw [h2] at this
      cases ha : a k with
      | none => rfl
      | some o => simp [Hp.join, ha] at this
  · funext k
    by_cases hk : k < w.heap.size
    · rw [hw k hk, h2]; simp [Hp.join, hk]
    · have := hn k (by omega)
      rw [h2] at this
      have ha : a k = none := by cases ha : a k with | none => rfl | some o => simp [Hp.join, ha] at this
      simp [Hp.join, hk, ha]
theorem below_of_mod {w w0 : World} (m : Mod w w0 (just (hp w0))) : Go.RowKit.Below w0.heap.size w0 w := by
  obtain ⟨a, b, h1, h2, h3, _⟩ := m.says
  have h3 : a = hp w0 := h3
  have key : ∀ k, k < w0.heap.size → w.heap[k]? = w0.heap[k]? := by
    intro k hk
    have e : hp w k = (hp w0 k).or (b k) := by rw [h2, h3]; rfl
    have e2 : hp w0 k = some w0.heap[k] := by simp [hp, hk]
    rw [e2] at e
    simp only [hp, Option.some_or] at e
    rw [e]; simp [hk]
  refine ⟨m.os, m.tape, m.output, ?_, key⟩
  rcases Nat.lt_or_ge w.heap.size w0.heap.size with h | h
  · have := key w.heap.size h
    rw [Array.getElem?_eq_none (Nat.le_refl _)] at this
    simp [h] at this
  · exact h
end Go.Sl
