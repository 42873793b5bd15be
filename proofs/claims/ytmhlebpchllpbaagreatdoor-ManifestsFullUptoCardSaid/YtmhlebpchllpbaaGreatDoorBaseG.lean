/- A small separation logic over the model's heap, for walks: plain definitions and lemmas, under no condition.
Rows of cells in the small separation logic: a slice of the call's own, slices that are only read, append: plain lemmas.
Ranging over a map with text keys, in the small separation logic: plain lemmas.
A range over a function in the small separation logic: what a round asks, what an iterator promises, and the statement's law: plain definitions and lemmas; the conditions are in each theorem.
append onto a row of elements of several cells: plain lemmas over the small separation logic.
A part of an assertion put ahead, what is left found by instances: plain lemmas over the small separation logic.
One cell of what is said, in every world: a class and plain lemmas. -/
import Derived.WalkKit
import Derived.Deep.Draws
import Derived.MapKept
import Derived.Maps.AppendAt
import Derived.OwnWalk
import Derived.RangeFuncNested
import Derived.RangeFuncBound
import Derived.RangeFuncCalls
import Derived.RangeFuncLeaves
import Derived.Shelf.Abstract
import Derived.Shelf.RegionOpen
import Derived.OwnWalkIn
import Derived.TacticsInMore
import Derived.LoopNIn
import Derived.LoopIn
import Derived.Great.BuildSlice
namespace Go.Sl
open Go

/-- A part of the heap. -/
abbrev Hp := Nat → Option Obj
def Hp.apart (a b : Hp) : Prop := ∀ k, a k = none ∨ b k = none
def Hp.join (a b : Hp) : Hp := fun k => (a k).or (b k)
def Hp.none : Hp := fun _ => Option.none
def Hp.one (g : Nat) (o : Obj) : Hp := fun k => if k = g then some o else Option.none
/-- What is said of a part of the heap. -/
structure Asn where
  says : Hp → Prop
theorem Asn.ext' {A B : Asn} (h : ∀ x, A.says x ↔ B.says x) : A = B := by
  cases A; cases B; congr; funext x; exact propext (h x)
def sep (A B : Asn) : Asn := ⟨fun h => ∃ a b, Hp.apart a b ∧ h = Hp.join a b ∧ A.says a ∧ B.says b⟩
instance : Mul Asn := ⟨sep⟩
def emp : Asn := ⟨fun h => h = Hp.none⟩
def tru : Asn := ⟨fun _ => True⟩
def blk (g : Nat) (o : Obj) : Asn := ⟨fun h => h = Hp.one g o⟩
/-- just this part -/
def just (x : Hp) : Asn := ⟨fun h => h = x⟩
def ex {α : Sort _} (F : α → Asn) : Asn := ⟨fun h => ∃ a, (F a).says h⟩
def pur (p : Prop) : Asn := ⟨fun h => p ∧ h = Hp.none⟩

theorem sep_says (A B : Asn) (h : Hp) : (A * B).says h ↔ ∃ a b, Hp.apart a b ∧ h = Hp.join a b ∧ A.says a ∧ B.says b := Iff.rfl
theorem Hp.apart_comm {a b : Hp} (h : Hp.apart a b) : Hp.apart b a := fun k => (h k).symm
theorem Hp.join_comm {a b : Hp} (h : Hp.apart a b) : Hp.join a b = Hp.join b a := by
  funext k; unfold Hp.join
  rcases h k with h | h <;> simp [h]
theorem sep_comm (A B : Asn) : A * B = B * A := by
  apply Asn.ext'; intro x; rw [sep_says, sep_says]
  constructor <;> (rintro ⟨a, b, h1, rfl, h2, h3⟩; exact ⟨b, a, Hp.apart_comm h1, Hp.join_comm h1, h3, h2⟩)
theorem Hp.join_assoc (a b c : Hp) : Hp.join (Hp.join a b) c = Hp.join a (Hp.join b c) := by
  funext k; unfold Hp.join; cases a k <;> simp
theorem Hp.apart_join_left {a b c : Hp} : Hp.apart (Hp.join a b) c ↔ Hp.apart a c ∧ Hp.apart b c := by
  unfold Hp.apart Hp.join
  constructor
  · intro h; exact ⟨fun k => by have := h k; cases hk : a k <;> simp_all, fun k => by have := h k; cases hk : a k <;> cases hb : b k <;> simp_all⟩
  · rintro ⟨h1, h2⟩ k; have := h1 k; have := h2 k; cases hk : a k <;> simp_all
theorem Hp.apart_join_right {a b c : Hp} : Hp.apart a (Hp.join b c) ↔ Hp.apart a b ∧ Hp.apart a c := by
  constructor
  · intro h; have := Hp.apart_join_left.1 (Hp.apart_comm h); exact ⟨Hp.apart_comm this.1, Hp.apart_comm this.2⟩
  · rintro ⟨h1, h2⟩; exact Hp.apart_comm (Hp.apart_join_left.2 ⟨Hp.apart_comm h1, Hp.apart_comm h2⟩)
theorem sep_assoc (A B C : Asn) : A * B * C = A * (B * C) := by
  apply Asn.ext'; intro x
  constructor
  · rintro ⟨ab, c, h1, rfl, ⟨a, b, h2, rfl, ha, hb⟩, hc⟩
    have h1' := Hp.apart_join_left.1 h1
    exact ⟨a, Hp.join b c, Hp.apart_join_right.2 ⟨h2, h1'.1⟩, Hp.join_assoc _ _ _, ha, b, c, h1'.2, rfl, hb, hc⟩
  · rintro ⟨a, bc, h1, rfl, ha, b, c, h2, rfl, hb, hc⟩
    have h1' := Hp.apart_join_right.1 h1
    exact ⟨Hp.join a b, c, Hp.apart_join_left.2 ⟨h1'.2, h2⟩, (Hp.join_assoc _ _ _).symm, ⟨a, b, h1'.1, rfl, ha, hb⟩, hc⟩
theorem sep_left_comm (A B C : Asn) : A * (B * C) = B * (A * C) := by rw [← sep_assoc, sep_comm A B, sep_assoc]
instance : Std.Associative (α := Asn) (· * ·) := ⟨sep_assoc⟩
instance : Std.Commutative (α := Asn) (· * ·) := ⟨sep_comm⟩
theorem Hp.join_none (b : Hp) : Hp.join Hp.none b = b := by funext k; simp [Hp.join, Hp.none]
theorem Hp.none_apart (b : Hp) : Hp.apart Hp.none b := fun _ => .inl rfl
theorem emp_sep (A : Asn) : emp * A = A := by
  apply Asn.ext'; intro x
  constructor
  · rintro ⟨a, b, _, rfl, rfl, hb⟩; rw [Hp.join_none]; exact hb
  · intro h; exact ⟨Hp.none, x, Hp.none_apart _, (Hp.join_none _).symm, rfl, h⟩
theorem sep_emp (A : Asn) : A * emp = A := by rw [sep_comm, emp_sep]
theorem pur_sep {p : Prop} {A : Asn} {h : Hp} : (pur p * A).says h ↔ p ∧ A.says h := by
  constructor
  · rintro ⟨a, b, h1, rfl, ⟨hp, rfl⟩, hb⟩; rw [Hp.join_none]; exact ⟨hp, hb⟩
  · rintro ⟨hp, h⟩; exact ⟨Hp.none, _, Hp.none_apart _, (Hp.join_none _).symm, ⟨hp, rfl⟩, h⟩
theorem ex_sep {α : Sort _} {F : α → Asn} {A : Asn} {h : Hp} : (ex F * A).says h ↔ ∃ a, (F a * A).says h := by
  constructor
  · rintro ⟨a, b, h1, h2, ⟨x, hx⟩, hb⟩; exact ⟨x, a, b, h1, h2, hx, hb⟩
  · rintro ⟨x, a, b, h1, h2, hx, hb⟩; exact ⟨a, b, h1, h2, ⟨x, hx⟩, hb⟩
theorem sep_imp {A A' B : Asn} (h : ∀ x, A.says x → A'.says x) {x : Hp} (hx : (A * B).says x) : (A' * B).says x := by
  obtain ⟨a, b, h1, h2, h3, h4⟩ := hx; exact ⟨a, b, h1, h2, h _ h3, h4⟩

/-- The heap of a world as a part. -/
def hp (w : World) : Hp := fun k => w.heap[k]?
/-- World w, come of w0, has a heap of a part of which S says. -/
class Mod (w : World) (w0 : outParam World) (S : outParam Asn) : Prop where
  os : w.os = w0.os
  tape : w.tape = w0.tape
  output : w.output = w0.output
  says : (S * tru).says (hp w)

/-- S knows what block g holds. -/
class Has (S : Asn) (g : Nat) (o : outParam Obj) : Prop where
  has : ∀ h, S.says h → h g = some o
instance Has.blk (g : Nat) (o : Obj) : Has (blk g o) g o := ⟨fun h hh => by rw [hh]; simp [Hp.one]⟩
instance Has.left (A B : Asn) (g : Nat) (o : Obj) [ha : Has A g o] : Has (A * B) g o :=
  ⟨by rintro h ⟨a, b, _, rfl, h1, _⟩; simp [Hp.join, ha.has a h1]⟩
instance Has.right (A B : Asn) (g : Nat) (o : Obj) [hb : Has B g o] : Has (A * B) g o :=
  ⟨by rintro h ⟨a, b, h0, rfl, h1, h2⟩
      have := hb.has b h2
      rcases h0 g with h3 | h3
      · simp [Hp.join, h3, this]
      · rw [h3] at this; cases this⟩
/-- S is pred v beside F. -/
class Take {V : Type} (S : Asn) (pred : V → Asn) (v : outParam V) (F : outParam Asn) : Prop where
  eq : S = pred v * F
instance Take.left {V : Type} (A B F : Asn) (pred : V → Asn) (v : V) [t : Take A pred v F] : Take (A * B) pred v (F * B) := ⟨by rw [t.eq, sep_assoc]⟩
instance Take.right {V : Type} (A B F : Asn) (pred : V → Asn) (v : V) [t : Take B pred v F] : Take (A * B) pred v (A * F) :=
  ⟨by rw [t.eq, ← sep_assoc, sep_comm A, sep_assoc]⟩
instance Take.blk (g : Nat) (o : Obj) : Take (blk g o) (blk g) o emp := ⟨(sep_emp _).symm⟩

section
variable {w w0 : World} {S : Asn}
theorem Mod.fact {g : Nat} {o : Obj} [m : Mod w w0 S] (h : ∀ h, S.says h → h g = some o) : w.heap[g]? = some o := by
  obtain ⟨a, b, _, h2, h3, _⟩ := m.says
  have : hp w g = some o := by rw [h2]; simp [Hp.join, h _ h3]
  exact this
theorem Mod.heap {g : Nat} {o : Obj} [m : Mod w w0 S] [h : Has S g o] : w.heap[g]? = some o := Mod.fact h.has
theorem cell_of {g i : Nat} {cs : Array Value} {t : TypeId} {fr : Nat × Nat} [Mod w w0 S] [Has S g (.cells cs t fr)] : w.cell? ⟨g, i, none⟩ = cs[i]? := by
  have := Mod.heap (w := w) (w0 := w0) (S := S) (g := g) (o := .cells cs t fr)
  simp [World.cell?, this]
theorem frozen_of {g i : Nat} {cs : Array Value} {t : TypeId} [Mod w w0 S] [Has S g (.cells cs t (0, 0))] : w.frozen? ⟨g, i, none⟩ = false := by
  have := Mod.heap (w := w) (w0 := w0) (S := S) (g := g) (o := .cells cs t (0, 0))
  simp [World.frozen?, this]
/-- A change of what is said. -/
theorem Mod.conv {S' : Asn} [m : Mod w w0 S] (h : ∀ x, S.says x → S'.says x) : Mod w w0 S' := ⟨m.os, m.tape, m.output, sep_imp h m.says⟩
theorem Mod.to {S' : Asn} (h : S = S') [m : Mod w w0 S] : Mod w w0 S' := h ▸ m
theorem Mod.drop {A : Asn} [m : Mod w w0 (A * S)] : Mod w w0 S :=
  ⟨m.os, m.tape, m.output, by
    have h := m.says
    rw [sep_comm A S, sep_assoc] at h
    obtain ⟨a, b, h1, h2, h3, _⟩ := h
    exact ⟨a, b, h1, h2, h3, trivial⟩⟩
theorem Mod.dropR {A : Asn} [m : Mod w w0 (S * A)] : Mod w w0 S := by
  have : Mod w w0 (A * S) := by rw [sep_comm]; exact m
  exact Mod.drop (A := A)
theorem Mod.open {α : Sort _} {G : α → Asn} {F : Asn} [m : Mod w w0 (ex G * F)] : ∃ a, Mod w w0 (G a * F) := by
  have h := m.says
  rw [sep_assoc] at h
  obtain ⟨a, h⟩ := ex_sep.1 h
  exact ⟨a, m.os, m.tape, m.output, by rw [sep_assoc]; exact h⟩
theorem Mod.shut {α : Sort _} {G : α → Asn} {F : Asn} (a : α) [m : Mod w w0 (G a * F)] : Mod w w0 (ex G * F) :=
  Mod.conv (S := G a * F) fun _ h => ex_sep.2 ⟨a, h⟩
theorem Mod.openP {p : Prop} {F : Asn} [m : Mod w w0 (pur p * F)] : p ∧ Mod w w0 F := by
  have h := m.says
  rw [sep_assoc] at h
  have h' := pur_sep.1 h
  exact ⟨h'.1, m.os, m.tape, m.output, h'.2⟩
theorem Mod.shutP {p : Prop} {F : Asn} (hp : p) [m : Mod w w0 F] : Mod w w0 (pur p * F) :=
  Mod.conv (S := F) fun _ h => pur_sep.2 ⟨hp, h⟩
instance Mod.drew [m : Mod w w0 S] : Mod w.drew w0 S := ⟨m.os, m.tape, m.output, m.says⟩
instance Mod.drewN (n : Nat) [m : Mod w w0 S] : Mod (w.drewN n) w0 S := ⟨m.os, m.tape, m.output, m.says⟩
theorem hp_alloc (w : World) (o : Obj) : hp (w.alloc o) = Hp.join (Hp.one w.heap.size o) (hp w) ∧ Hp.apart (Hp.one w.heap.size o) (hp w) := by
  constructor
  · funext k
    simp only [hp, World.alloc, Array.getElem?_push, Hp.join, Hp.one]
    split <;> simp_all
  · intro k
    by_cases hk : k = w.heap.size
    · right; subst hk; simp [hp]
    · left; simp [Hp.one, hk]
/-- How many blocks a world has, in the walk's own spelling. -/
class HpSize (w : World) (n : outParam Nat) : Prop where
  eq : w.heap.size = n
instance (priority := 100) HpSize.base (w : World) : HpSize w w.heap.size := ⟨rfl⟩
instance HpSize.alloc (w : World) (n : Nat) (o : Obj) [h : HpSize w n] : HpSize (w.alloc o) (n + 1) := ⟨by simp [h.eq]⟩
instance HpSize.drew (w : World) (n : Nat) [h : HpSize w n] : HpSize w.drew n := ⟨h.eq⟩
instance HpSize.setCell (w : World) (n : Nat) (a : Addr) (v : Value) [h : HpSize w n] : HpSize (w.setCell a v) n := ⟨by simp [h.eq]⟩
instance Mod.alloc (o : Obj) {n : Nat} [hn : HpSize w n] [m : Mod w w0 S] : Mod (w.alloc o) w0 (blk n o * S) :=
  ⟨m.os, m.tape, m.output, by obtain ⟨h1, h2⟩ := hp_alloc w o; rw [h1, sep_assoc, ← hn.eq]; exact ⟨_, _, h2, rfl, rfl, m.says⟩⟩
/-- A step that turns block g alone. -/
theorem Mod.turn {w' : World} {V : Type} {pred : V → Asn} {u u' : V} {F : Asn} {g : Nat} [m : Mod w w0 S] [t : Take S pred u F]
    (h1 : w'.os = w.os) (h2 : w'.tape = w.tape) (h3 : w'.output = w.output) (h4 : ∀ k, k ≠ g → w'.heap[k]? = w.heap[k]?)
    (hown : ∀ h, (pred u).says h → (∀ k, k ≠ g → h k = Option.none) ∧ (h g).isSome = true)
    (hnew : ∀ h, (pred u).says h → w.heap[g]? = h g → (pred u').says (fun k => if k = g then w'.heap[g]? else Option.none)) : Mod w' w0 (pred u' * F) := by
  refine ⟨h1.trans m.os, h2.trans m.tape, h3.trans m.output, ?_⟩
  have hs := m.says
  rw [t.eq, sep_assoc] at hs
  obtain ⟨a, b, ha, hj, hp1, hb⟩ := hs
  obtain ⟨hk, hg⟩ := hown a hp1
  have hbg : b g = Option.none := by
    rcases ha g with h | h
    · rw [h] at hg; cases hg
    · exact h
  have hwg : w.heap[g]? = a g := by
    have : hp w g = a g := by rw [hj]; simp [Hp.join, hbg]
    exact this
  rw [sep_assoc]
  refine ⟨_, b, ?_, ?_, hnew a hp1 hwg, hb⟩
  · intro k
    by_cases hkg : k = g
    · right; rw [hkg]; exact hbg
    · left; simp [hkg]
  · funext k
    by_cases hkg : k = g
    · subst hkg; simp [hp, Hp.join, hbg]
    · have e : hp w k = b k := by rw [hj]; simp [Hp.join, hk k hkg]
      simp only [hp, Hp.join, if_neg hkg, Option.none_or]
      rw [h4 k hkg]; exact e
theorem heap_setCell_ne (w : World) (a : Addr) (v : Value) (k : Nat) (h : k ≠ a.block) : (w.setCell a v).heap[k]? = w.heap[k]? := Go.RowKit.Below.heap_setCell w a v k h
instance Mod.setCells {g i : Nat} {cs : Array Value} {ty : TypeId} {fr : Nat × Nat} {F : Asn} (v : Value) [m : Mod w w0 S] [t : Take S (blk g) (.cells cs ty fr) F] :
    Mod (w.setCell ⟨g, i, none⟩ v) w0 (blk g (.cells (cs.setIfInBounds i v) ty fr) * F) :=
  Mod.turn (w := w) (g := g) (u := Obj.cells cs ty fr) (pred := blk g) rfl rfl rfl (fun k hk => heap_setCell_ne _ _ _ _ hk)
    (fun h hh => by rw [hh]; exact ⟨fun k hk => by simp [Hp.one, hk], by simp [Hp.one]⟩)
    (fun h hh hw => by
      rw [hh] at hw
      simp [Hp.one] at hw
      show _ = _
      funext k
      by_cases hk : k = g
      · subst hk; simp [Hp.one, World.setCell, Array.getElem?_modify, hw]
      · simp [Hp.one, hk])
end

/-! ### Maps with text keys -/
abbrev Pairs := List (ByteArray × Value)
structure MapOk (es : Array MapEntry) (clock : Nat) (L : Pairs) : Prop where
  keys : es.toList.map (fun e => (e.key, e.val)) = L.map (fun p => (Value.string p.1, p.2))
  born : es.toList.Pairwise (fun a b => a.born < b.born)
  lt : ∀ e ∈ es.toList, e.born < clock
  nodup : (L.map (·.1)).Nodup
/-- Block r is a map with just these entries, in the order in which they came. -/
def smap (r : Nat) (L : Pairs) : Asn := ⟨fun h => ∃ es clock, MapOk es clock L ∧ h = Hp.one r (.map es clock)⟩
def mget {α : Type} (L : List (ByteArray × α)) (s : ByteArray) : Option α := (L.find? (fun p => decide (p.1 = s))).map (·.2)
def mput {α : Type} (L : List (ByteArray × α)) (s : ByteArray) (v : α) : List (ByteArray × α) :=
  if L.any (fun p => decide (p.1 = s)) then L.map (fun p => if p.1 = s then (p.1, v) else p) else L ++ [(s, v)]
def mdel {α : Type} (L : List (ByteArray × α)) (s : ByteArray) : List (ByteArray × α) := L.filter (fun p => !decide (p.1 = s))
class HasMap (S : Asn) (r : Nat) (L : outParam Pairs) : Prop where
  has : ∀ h, S.says h → ∃ es clock, MapOk es clock L ∧ h r = some (.map es clock)
instance HasMap.smap (r : Nat) (L : Pairs) : HasMap (smap r L) r L := ⟨fun h ⟨es, c, hm, hh⟩ => ⟨es, c, hm, by rw [hh]; simp [Hp.one]⟩⟩
instance HasMap.left (A B : Asn) (r : Nat) (L : Pairs) [ha : HasMap A r L] : HasMap (A * B) r L :=
  ⟨by
    rintro h ⟨a, b, _, rfl, h1, _⟩
    obtain ⟨es, c, hm, hh⟩ := ha.has a h1
    exact ⟨es, c, hm, by simp [Hp.join, hh]⟩⟩
instance HasMap.right (A B : Asn) (r : Nat) (L : Pairs) [hb : HasMap B r L] : HasMap (A * B) r L :=
  ⟨by
    rintro h ⟨a, b, h0, rfl, h1, h2⟩
    obtain ⟨es, c, hm, hh⟩ := hb.has b h2
    refine ⟨es, c, hm, ?_⟩
    rcases h0 r with h3 | h3
    · simp [Hp.join, h3, hh]
    · rw [h3] at hh; cases hh⟩
instance Take.smap (r : Nat) (L : Pairs) : Take (smap r L) (smap r) L emp := ⟨(sep_emp _).symm⟩
theorem MapOk.made : MapOk #[] 0 [] := ⟨rfl, by simp, by simp, by simp⟩
theorem says_smap_made (r : Nat) : (smap r []).says (Hp.one r (.map #[] 0)) := ⟨#[], 0, MapOk.made, rfl⟩
instance (priority := 2000) Mod.allocMap {w w0 : World} {S : Asn} {n : Nat} [hn : HpSize w n] [m : Mod w w0 S] : Mod (w.alloc (.map #[] 0)) w0 (smap n [] * S) := by
  have h : Mod (w.alloc (.map #[] 0)) w0 (blk n (.map #[] 0) * S) := inferInstance
  exact Mod.conv (S := blk n (.map #[] 0) * S) fun x hx => sep_imp (fun y hy => by rw [show y = Hp.one n (.map #[] 0) from hy]; exact says_smap_made _) hx

def _root_.Go.Program.mapKey (P : Program) (t : TypeId) : TypeId := match P.underlying t with | some (.map k _) => k | _ => 0
def _root_.Go.Program.mapElem (P : Program) (t : TypeId) : TypeId := match P.underlying t with | some (.map _ e) => e | _ => 0
def _root_.Go.Program.zeroOf (P : Program) (t : TypeId) : Value := ((P.info? t).bind (·.zero)).getD undef
/-- What a walk wants to know of a map's type, once for a type. -/
class SMap (P : Program) (t : TypeId) : Prop where
  map : P.underlying t = some (.map (P.mapKey t) (P.mapElem t))
  key : P.underlying (P.mapKey t) = some .string
  zero : ∀ w, (zeroValue (P.mapElem t)).run P w = .ok (P.zeroOf (P.mapElem t)) w

section
variable {P : Program} {w w0 : World} {S : Asn} {t : TypeId} {r : Nat} {L : Pairs}
theorem mapBlock (w : World) [m : Mod w w0 S] [h : HasMap S r L] : ∃ es clock, MapOk es clock L ∧ w.heap[r]? = some (.map es clock) := by
  obtain ⟨a, b, _, h2, h3, _⟩ := m.says
  obtain ⟨es, c, hm, hh⟩ := h.has a h3
  refine ⟨es, c, hm, ?_⟩
  have : hp w r = some (.map es c) := by rw [h2]; simp [Hp.join, hh]
  exact this
theorem run_getObj_at {o : Obj} (h : w.heap[r]? = some o) (hc : ∀ c e f, o ≠ .cells c e f) : (getObj r).run P w = .ok o w := by
  cases o <;> simp [getObj, Sem.run, h] <;> exact absurd rfl (hc _ _ _)
theorem run_setObj_at {o o' : Obj} (h : w.heap[r]? = some o) (hc : ∀ c e f, o ≠ .cells c e f) : (setObj r o').run P w = .ok () { w with heap := w.heap.setIfInBounds r o' } := by
  cases o <;> simp [setObj, Sem.run, h] <;> exact absurd rfl (hc _ _ _)
theorem findNow_string (s : ByteArray) : ∀ (es : List MapEntry) (L : Pairs) (i : Nat), es.map (fun e => (e.key, e.val)) = L.map (fun p => (Value.string p.1, p.2)) →
    Instr.findNow .string (.string s) es i = some ((L.findIdx? (fun p => decide (p.1 = s))).bind fun j => (L[j]?).map fun p => (i + j, p.2))
  | [], L, i, h => by
    have : L = [] := by cases L; rfl; simp at h
    subst this; simp [Instr.findNow]
  | e :: es, [], i, h => by simp at h
  | e :: es, p :: L, i, h => by
    simp only [List.map_cons, List.cons.injEq, Prod.mk.injEq] at h
    obtain ⟨⟨hk, hv⟩, hr⟩ := h
    have ih := findNow_string s es L (i + 1) hr
    simp only [Instr.findNow, hk, Instr.sameNow, List.findIdx?_cons]
    by_cases hs : p.1 = s
    · have h1 : (s == p.1) = true := (MapKept.bytes_beq _ _).2 hs.symm
      simp only [h1]
      simp [hs, hv]
    · have h1 : (s == p.1) = false := by
        cases h : (s == p.1) with
        | false => rfl
        | true => exact absurd ((MapKept.bytes_beq _ _).1 h).symm hs
      simp only [h1, hs, decide_false]
      rw [ih]
      cases hf : L.findIdx? (fun p => decide (p.1 = s)) with
      | none => simp
      | some j => simp [Nat.add_assoc, Nat.add_comm 1 j]
theorem mget_findIdx (L : Pairs) (s : ByteArray) : mget L s = (L.findIdx? (fun p => decide (p.1 = s))).bind fun j => (L[j]?).map (·.2) := by
  unfold mget
  induction L with
  | nil => simp
  | cons p L ih =>
    simp only [List.find?_cons, List.findIdx?_cons]
    by_cases hs : p.1 = s
    · simp [hs]
    · simp only [hs, ih, decide_false]
      cases hf : L.findIdx? (fun p => decide (p.1 = s)) <;> simp
theorem run_find {s : ByteArray} [T : SMap P t] {es : Array MapEntry} {c : Nat} (hm : MapOk es c L) (w : World) :
    (Instr.findKey (P.mapKey t) (.string s) es.toList).run P w = .ok ((L.findIdx? (fun p => decide (p.1 = s))).bind fun j => (L[j]?).map fun p => (j, p.2)) w := by
  have := findNow_string s es.toList L 0 hm.keys
  simp only [Nat.zero_add] at this
  exact MapKept.run_findKey T.key this
theorem run_check {s : ByteArray} [T : SMap P t] (b : Bool) (w : World) : (Instr.checkKey b 10000 (P.mapKey t) (.string s)).run P w = .ok () w :=
  MapKept.run_checkKey (d := .string) T.key (by trivial) b 9999
@[go_sem] theorem run_lookup_sok (s : ByteArray) [Mod w w0 S] [HasMap S r L] [T : SMap P t] :
    (Instr.lookup t (.map (some r)) (.string s) true).run P w = .ok (.tuple #[(mget L s).getD (P.zeroOf (P.mapElem t)), .bool (mget L s).isSome]) w := by
  obtain ⟨es, c, hm, hw⟩ := mapBlock (w0 := w0) (S := S) (r := r) (L := L) w
  have h1 := run_find (P := P) (t := t) (s := s) hm w
  have hl := mget_findIdx L s
  cases hf : L.findIdx? (fun p => decide (p.1 = s)) with
  | none => rw [hf] at h1 hl; simp [Instr.lookup, run_underlying T.map, run_getObj_at hw, run_check, h1, T.zero, hl]
  | some j =>
    rw [hf] at h1 hl
    obtain ⟨hj, _⟩ := List.findIdx?_eq_some_iff_getElem.1 hf
    have hj' : L[j]? = some L[j] := List.getElem?_eq_getElem hj
    simp [hj'] at h1 hl
    simp [Instr.lookup, run_underlying T.map, run_getObj_at hw, run_check, h1, hl]
@[go_sem] theorem run_lookup_s (s : ByteArray) [Mod w w0 S] [HasMap S r L] [T : SMap P t] :
    (Instr.lookup t (.map (some r)) (.string s) false).run P w = .ok ((mget L s).getD (P.zeroOf (P.mapElem t))) w := by
  obtain ⟨es, c, hm, hw⟩ := mapBlock (w0 := w0) (S := S) (r := r) (L := L) w
  have h1 := run_find (P := P) (t := t) (s := s) hm w
  have hl := mget_findIdx L s
  cases hf : L.findIdx? (fun p => decide (p.1 = s)) with
  | none => rw [hf] at h1 hl; simp [Instr.lookup, run_underlying T.map, run_getObj_at hw, run_check, h1, T.zero, hl]
  | some j =>
    rw [hf] at h1 hl
    obtain ⟨hj, _⟩ := List.findIdx?_eq_some_iff_getElem.1 hf
    have hj' : L[j]? = some L[j] := List.getElem?_eq_getElem hj
    simp [hj'] at h1 hl
    simp [Instr.lookup, run_underlying T.map, run_getObj_at hw, run_check, h1, hl]
@[go_sem] theorem run_len_smap (ty : TypeId) [Mod w w0 S] [HasMap S r L] [T : SMap P t] : (Builtin.len_ #[t] ty #[.map (some r)]).run P w = .ok (goInt L.length) w := by
  obtain ⟨es, c, hm, hw⟩ := mapBlock (w0 := w0) (S := S) (r := r) (L := L) w
  have hl : es.size = L.length := by have := congrArg List.length hm.keys; simpa using this
  simp [Builtin.len_, run_underlying T.map, run_getObj_at hw, hl]
/-- The world behind a store into a map with text keys. -/
def _root_.Go.World.mapPut (w : World) (r : Nat) (s : ByteArray) (v : Value) : World :=
  match w.heap[r]? with
  | some (.map es clock) =>
    { w with heap := w.heap.setIfInBounds r (match Instr.findNow .string (.string s) es.toList 0 with
      | some (some (i, _)) => .map (es.modify i fun e => { e with key := .string s, val := v }) clock
      | _ => .map (es.push { key := .string s, val := v, born := clock }) (clock + 1)) }
  | _ => w
def _root_.Go.World.mapDel (w : World) (r : Nat) (s : ByteArray) : World :=
  match w.heap[r]? with
  | some (.map es clock) =>
    { w with heap := w.heap.setIfInBounds r (match Instr.findNow .string (.string s) es.toList 0 with
      | some (some (i, _)) => .map (es.eraseIdxIfInBounds i) clock
      | _ => .map es clock) }
  | _ => w
@[simp] theorem size_mapPut (w : World) (r : Nat) (s : ByteArray) (v : Value) : (w.mapPut r s v).heap.size = w.heap.size := by
  unfold World.mapPut; split <;> simp
@[simp] theorem size_mapDel (w : World) (r : Nat) (s : ByteArray) : (w.mapDel r s).heap.size = w.heap.size := by
  unfold World.mapDel; split <;> simp
instance HpSize.mapPut (w : World) (n r : Nat) (s : ByteArray) (v : Value) [h : HpSize w n] : HpSize (w.mapPut r s v) n := ⟨by simp [h.eq]⟩
instance HpSize.mapDel (w : World) (n r : Nat) (s : ByteArray) [h : HpSize w n] : HpSize (w.mapDel r s) n := ⟨by simp [h.eq]⟩
theorem entry_at {es : Array MapEntry} {c : Nat} (hm : MapOk es c L) {j : Nat} (hj : j < L.length) : ∃ e, es[j]? = some e ∧ e.key = .string L[j].1 ∧ e.val = L[j].2 := by
  have hl : es.size = L.length := by have := congrArg List.length hm.keys; simpa using this
  refine ⟨es[j], by simp [hl, hj], ?_⟩
  have := congrArg (fun l => l[j]?) hm.keys
  simp [hl, hj] at this
  exact this
theorem run_mapUpdate_s (s : ByteArray) (v : Value) [Mod w w0 S] [HasMap S r L] [T : SMap P t] :
    (Instr.mapUpdate t (.map (some r)) (.string s) v).run P w = .ok () (w.mapPut r s v) := by
  obtain ⟨es, c, hm, hw⟩ := mapBlock (w0 := w0) (S := S) (r := r) (L := L) w
  have h1 := run_find (P := P) (t := t) (s := s) hm w
  have h0 := findNow_string s es.toList L 0 hm.keys
  simp only [Nat.zero_add] at h0
  cases hf : L.findIdx? (fun p => decide (p.1 = s)) with
  | none =>
    rw [hf] at h1 h0
    simp [Instr.mapUpdate, run_underlying T.map, run_getObj_at hw, run_check, h1, World.mapPut, hw, h0, run_setObj_at hw]
  | some j =>
    rw [hf] at h1 h0
    obtain ⟨hj, hk, _⟩ := List.findIdx?_eq_some_iff_getElem.1 hf
    have hj' : L[j]? = some L[j] := List.getElem?_eq_getElem hj
    obtain ⟨e, he, hek, hev⟩ := entry_at hm hj
    have hks : L[j].1 = s := by simpa using hk
    simp [hj'] at h1 h0
    have hst : (Instr.keyThatStays (.string L[j].1) (.string s)).run P w = .ok (.string s) w := by
      rw [hks]; simp [Instr.keyThatStays, Instr.sameBits, (MapKept.bytes_beq s s).2 rfl]
    simp [Instr.mapUpdate, run_underlying T.map, run_getObj_at hw, run_check, h1, World.mapPut, hw, h0, run_setObj_at hw, he, hek, hst]
attribute [go_sem] run_mapUpdate_s
theorem run_delete_s (ty kt : TypeId) (s : ByteArray) [Mod w w0 S] [HasMap S r L] [T : SMap P t] :
    (Builtin.delete_ #[t, kt] ty #[.map (some r), .string s]).run P w = .ok (.tuple #[]) (w.mapDel r s) := by
  obtain ⟨es, c, hm, hw⟩ := mapBlock (w0 := w0) (S := S) (r := r) (L := L) w
  have h1 := run_find (P := P) (t := t) (s := s) hm w
  have h0 := findNow_string s es.toList L 0 hm.keys
  simp only [Nat.zero_add] at h0
  cases hf : L.findIdx? (fun p => decide (p.1 = s)) with
  | none =>
    rw [hf] at h1 h0
    simp [Builtin.delete_, run_underlying T.map, run_getObj_at hw, run_check, h1, World.mapDel, hw, h0, run_setObj_at hw]
  | some j =>
    rw [hf] at h1 h0
    obtain ⟨hj, hk, _⟩ := List.findIdx?_eq_some_iff_getElem.1 hf
    have hj' : L[j]? = some L[j] := List.getElem?_eq_getElem hj
    simp [hj'] at h1 h0
    simp [Builtin.delete_, run_underlying T.map, run_getObj_at hw, run_check, h1, World.mapDel, hw, h0, run_setObj_at hw]
attribute [go_sem] run_delete_s
@[go_sem] theorem run_makeMap_s : (Instr.makeMap t none).run P w = .ok (.map (some w.heap.size)) (w.alloc (.map #[] 0)) := by
  simp [Instr.makeMap]

/-- Each element turned, the keys kept. -/
def onVals {α β : Type} (f : α → β) (L : List (ByteArray × α)) : List (ByteArray × β) := L.map fun p => (p.1, f p.2)
theorem mget_onVals {α β : Type} (f : α → β) (L : List (ByteArray × α)) (s : ByteArray) : mget (onVals f L) s = (mget L s).map f := by
  unfold mget onVals
  rw [List.find?_map, Option.map_map, Option.map_map]
  rfl
theorem mput_onVals {α β : Type} (f : α → β) (L : List (ByteArray × α)) (s : ByteArray) (v : α) : mput (onVals f L) s (f v) = onVals f (mput L s v) := by
  unfold mput onVals
  have h : (L.map fun p => (p.1, f p.2)).any (fun p => decide (p.1 = s)) = L.any (fun p => decide (p.1 = s)) := by rw [List.any_map]; rfl
  rw [h]
  split
  · simp only [List.map_map]
    apply List.map_congr_left
    intro p _
    simp only [Function.comp]
    split <;> rfl
  · simp
theorem mdel_onVals {α β : Type} (f : α → β) (L : List (ByteArray × α)) (s : ByteArray) : mdel (onVals f L) s = onVals f (mdel L s) := by
  unfold mdel onVals
  rw [List.filter_map]
  rfl
theorem length_onVals {α β : Type} (f : α → β) (L : List (ByteArray × α)) : (onVals f L).length = L.length := by simp [onVals]
theorem map_eraseIdx' {α β : Type} (f : α → β) : ∀ (l : List α) (j : Nat), (l.eraseIdx j).map f = (l.map f).eraseIdx j
  | [], _ => by simp
  | _ :: _, 0 => by simp
  | a :: l, j + 1 => by simp [map_eraseIdx' f l j]
theorem keys_modify {es : Array MapEntry} {j : Nat} {s : ByteArray} {v : Value} (hj : j < L.length) (hk : es.toList.map (fun e => (e.key, e.val)) = L.map (fun p => (Value.string p.1, p.2)))
    (hs : L[j].1 = s) : (es.modify j fun e => { e with key := .string s, val := v }).toList.map (fun e => (e.key, e.val)) = (L.modify j fun p => (p.1, v)).map (fun p => (Value.string p.1, p.2)) := by
  have hl : es.size = L.length := by have := congrArg List.length hk; simpa using this
  apply List.ext_getElem?
  intro i
  have hi := congrArg (fun l => l[i]?) hk
  simp only [List.getElem?_map, Array.getElem?_toList] at hi
  simp only [List.getElem?_map, Array.getElem?_toList, Array.getElem?_modify, List.getElem?_modify]
  by_cases hij : j = i
  · subst hij
    simp [hl, hj, hs]
  · simp only [if_neg hij]
    cases h1 : es[i]? <;> cases h2 : L[i]? <;> simp_all
theorem put_modify {s : ByteArray} {v : Value} {j : Nat} (hn : (L.map (·.1)).Nodup) (hj : j < L.length) (hs : L[j].1 = s) : mput L s v = L.modify j fun p => (p.1, v) := by
  unfold mput
  rw [if_pos (List.any_eq_true.2 ⟨L[j], List.getElem_mem hj, by simp [hs]⟩)]
  apply List.ext_getElem?
  intro i
  simp only [List.getElem?_map, List.getElem?_modify]
  by_cases hij : j = i
  · subst hij; simp [hj, hs]
  · simp only [if_neg hij]
    cases h2 : L[i]? with
    | none => simp
    | some p =>
      obtain ⟨hi, rfl⟩ := List.getElem?_eq_some_iff.1 h2
      have hne : L[i].1 ≠ s := by
        intro he
        have := List.getElem_inj (h₀ := by simpa using hj) (h₁ := by simpa using hi) hn
        simp only [List.getElem_map] at this
        exact hij (this.1 (hs.trans he.symm))
      simp [hne]
theorem keys_put (L : Pairs) (s : ByteArray) (v : Value) (h : L.any (fun p => decide (p.1 = s)) = true) : (mput L s v).map (·.1) = L.map (·.1) := by
  unfold mput
  rw [if_pos h, List.map_map]
  apply List.map_congr_left
  intro p _
  simp only [Function.comp]
  split <;> rfl
theorem any_of_find {s : ByteArray} {j : Nat} (hj : j < L.length) (hs : L[j].1 = s) : L.any (fun p => decide (p.1 = s)) = true := by
  exact List.any_eq_true.2 ⟨L[j], List.getElem_mem hj, by simp [hs]⟩
theorem MapOk.put {es : Array MapEntry} {c : Nat} (hm : MapOk es c L) (s : ByteArray) (v : Value) :
    ∃ es' c', (match Instr.findNow .string (.string s) es.toList 0 with
      | some (some (i, _)) => Obj.map (es.modify i fun e => { e with key := .string s, val := v }) c
      | _ => .map (es.push { key := .string s, val := v, born := c }) (c + 1)) = .map es' c' ∧ MapOk es' c' (mput L s v) := by
  have h0 := findNow_string s es.toList L 0 hm.keys
  simp only [Nat.zero_add] at h0
  cases hf : L.findIdx? (fun p => decide (p.1 = s)) with
  | none =>
    rw [hf] at h0
    simp only [Option.bind_none] at h0
    rw [h0]
    have hany : L.any (fun p => decide (p.1 = s)) = false := by
      rw [List.findIdx?_eq_none_iff] at hf
      rw [List.any_eq_false]
      intro p hp; simpa using hf p hp
    have hput : Sl.mput L s v = L ++ [(s, v)] := by unfold Sl.mput; rw [if_neg (by rw [hany]; simp)]
    refine ⟨_, _, rfl, ?_⟩
    rw [hput]
    refine ⟨by simp [hm.keys], ?_, ?_, ?_⟩
    · simp only [Array.toList_push]
      rw [List.pairwise_append]
      exact ⟨hm.born, by simp, fun a ha b hb => by simp at hb; subst hb; exact hm.lt a ha⟩
    · intro e he
      simp only [Array.toList_push, List.mem_append, List.mem_singleton] at he
      rcases he with he | rfl
      · have := hm.lt e he; omega
      · simp
    · rw [List.map_append, List.nodup_append]
      refine ⟨hm.nodup, by simp, ?_⟩
      intro a ha b hb
      simp at hb; subst hb
      rintro rfl
      rw [List.mem_map] at ha
      obtain ⟨p, hp, rfl⟩ := ha
      rw [List.any_eq_false] at hany
      exact hany p hp (by simp)
  | some j =>
    rw [hf] at h0
    obtain ⟨hj, hk, _⟩ := List.findIdx?_eq_some_iff_getElem.1 hf
    have hj' : L[j]? = some L[j] := List.getElem?_eq_getElem hj
    have hks : L[j].1 = s := by simpa using hk
    simp only [Option.bind_some, hj', Option.map_some] at h0
    rw [h0]
    refine ⟨_, _, rfl, ?_⟩
    have hput := put_modify (v := v) hm.nodup hj hks
    refine ⟨by rw [hput]; exact keys_modify hj hm.keys hks, ?_, ?_, by rw [keys_put L s v (any_of_find hj hks)]; exact hm.nodup⟩
    · have e : (es.modify j fun e => { e with key := .string s, val := v }).toList.map (·.born) = es.toList.map (·.born) := by
        apply List.ext_getElem?; intro i
        simp only [List.getElem?_map, Array.getElem?_toList, Array.getElem?_modify]
        split
        · cases es[i]? <;> simp
        · rfl
      have := hm.born
      have h1 : (es.toList.map (·.born)).Pairwise (· < ·) := List.pairwise_map.2 this
      rw [← e] at h1
      exact List.pairwise_map.1 h1
    · intro e he
      rw [List.mem_iff_getElem?] at he
      obtain ⟨i, hi⟩ := he
      simp only [Array.getElem?_toList, Array.getElem?_modify] at hi
      split at hi
      · cases h2 : es[i]? with
        | none => rw [h2] at hi; simp at hi
        | some x =>
          rw [h2] at hi
          simp at hi
          subst hi
          exact hm.lt x (List.mem_of_getElem? (by rw [Array.getElem?_toList]; exact h2))
      · exact hm.lt e (List.mem_of_getElem? (by rw [Array.getElem?_toList]; exact hi))
theorem MapOk.del {es : Array MapEntry} {c : Nat} (hm : MapOk es c L) (s : ByteArray) :
    ∃ es' c', (match Instr.findNow .string (.string s) es.toList 0 with
      | some (some (i, _)) => Obj.map (es.eraseIdxIfInBounds i) c
      | _ => .map es c) = .map es' c' ∧ MapOk es' c' (mdel L s) := by
  have h0 := findNow_string s es.toList L 0 hm.keys
  simp only [Nat.zero_add] at h0
  cases hf : L.findIdx? (fun p => decide (p.1 = s)) with
  | none =>
    rw [hf] at h0
    simp only [Option.bind_none] at h0
    rw [h0]
    have hd : Sl.mdel L s = L := by
      unfold Sl.mdel
      rw [List.filter_eq_self]
      rw [List.findIdx?_eq_none_iff] at hf
      intro p hp; simpa using hf p hp
    exact ⟨_, _, rfl, by rw [hd]; exact hm⟩
  | some j =>
    rw [hf] at h0
    obtain ⟨hj, hk, _⟩ := List.findIdx?_eq_some_iff_getElem.1 hf
    have hj' : L[j]? = some L[j] := List.getElem?_eq_getElem hj
    have hks : L[j].1 = s := by simpa using hk
    simp only [Option.bind_some, hj', Option.map_some] at h0
    rw [h0]
    have hl : es.size = L.length := by have := congrArg List.length hm.keys; simpa using this
    have hes : (es.eraseIdxIfInBounds j).toList = es.toList.eraseIdx j := by
      rw [Array.eraseIdxIfInBounds, dif_pos (by omega)]
      simp [Array.toList_eraseIdx]
    have hd : Sl.mdel L s = L.eraseIdx j := by
      unfold Sl.mdel
      have hsub : ∀ (l : Pairs) (j : Nat) (hj : j < l.length), (l.map (·.1)).Nodup → l[j].1 = s → l.filter (fun p => !decide (p.1 = s)) = l.eraseIdx j := by
        intro l
        induction l with
        | nil => intro j hj; simp at hj
        | cons p l ih =>
          intro j hj hn hs
          rw [List.map_cons, List.nodup_cons] at hn
          cases j with
          | zero =>
            simp only [List.getElem_cons_zero] at hs
            simp only [List.eraseIdx_zero, List.tail_cons]
            rw [List.filter_cons, if_neg (by simp [hs]), List.filter_eq_self]
            intro q hq
            have : q.1 ≠ s := fun e => hn.1 (by rw [hs, ← e]; exact List.mem_map_of_mem hq)
            simp [this]
          | succ j =>
            simp only [List.getElem_cons_succ] at hs
            have hj2 : j < l.length := by simpa using hj
            have hne : p.1 ≠ s := fun e => hn.1 (by rw [e, ← hs]; exact List.mem_map_of_mem (List.getElem_mem hj2))
            rw [List.filter_cons, if_pos (by simp [hne]), List.eraseIdx_cons_succ, ih j hj2 hn.2 hs]
      exact hsub L j hj hm.nodup hks
    refine ⟨_, _, rfl, ?_⟩
    rw [hd]
    refine ⟨by rw [hes, map_eraseIdx', hm.keys, ← map_eraseIdx'], ?_, ?_, ?_⟩
    · rw [hes]; exact hm.born.sublist (List.eraseIdx_sublist _ _)
    · rw [hes]; exact fun e he => hm.lt e ((List.eraseIdx_sublist _ _).subset he)
    · rw [map_eraseIdx']; exact hm.nodup.sublist (List.eraseIdx_sublist _ _)
theorem smap_turn {F : Asn} {L' : Pairs} {w' : World} [m : Mod w w0 S] [tk : Take S (smap r) L F] (h1 : w'.os = w.os) (h2 : w'.tape = w.tape) (h3 : w'.output = w.output)
    (h : ∀ es c, MapOk es c L → w.heap[r]? = some (.map es c) → ∃ es' c', w'.heap = w.heap.setIfInBounds r (.map es' c') ∧ MapOk es' c' L') : Mod w' w0 (smap r L' * F) := by
  have hb : HasMap S r L := by rw [tk.eq]; infer_instance
  obtain ⟨es, c, hm, hw⟩ := mapBlock (w0 := w0) (S := S) (r := r) (L := L) w
  obtain ⟨es', c', hh, hm'⟩ := h es c hm hw
  have hr : r < w.heap.size := (Array.getElem?_eq_some_iff.1 hw).1
  refine Mod.turn (w := w) (g := r) (pred := smap r) (u := L) h1 h2 h3 (fun k hk => ?_) (fun x ⟨es, c, _, hx⟩ => ?_) (fun x ⟨es, c, _, hx⟩ _ => ?_)
  · rw [hh, Array.getElem?_setIfInBounds_ne (Ne.symm hk)]
  · rw [hx]; exact ⟨fun k hk => by simp [Hp.one, hk], by simp [Hp.one]⟩
  · refine ⟨es', c', hm', ?_⟩
    funext k
    by_cases hk : k = r
    · subst hk; simp [Hp.one, hh, hr]
    · simp [Hp.one, hk]
instance Mod.mapPut {F : Asn} {s : ByteArray} {v : Value} [m : Mod w w0 S] [tk : Take S (smap r) L F] : Mod (w.mapPut r s v) w0 (smap r (mput L s v) * F) := by
  have hb : HasMap S r L := by rw [tk.eq]; infer_instance
  obtain ⟨es, c, hm, hw⟩ := mapBlock (w0 := w0) (S := S) (r := r) (L := L) w
  refine smap_turn (w := w) (L := L) (F := F) ?_ ?_ ?_ (fun es c hm hw => ?_)
  · simp [World.mapPut, hw]
  · simp [World.mapPut, hw]
  · simp [World.mapPut, hw]
  · obtain ⟨es', c', h1, h2⟩ := hm.put s v
    exact ⟨es', c', by simp only [World.mapPut, hw]; rw [← h1], h2⟩
instance Mod.mapDel {F : Asn} {s : ByteArray} [m : Mod w w0 S] [tk : Take S (smap r) L F] : Mod (w.mapDel r s) w0 (smap r (mdel L s) * F) := by
  have hb : HasMap S r L := by rw [tk.eq]; infer_instance
  obtain ⟨es, c, hm, hw⟩ := mapBlock (w0 := w0) (S := S) (r := r) (L := L) w
  refine smap_turn (w := w) (L := L) (F := F) ?_ ?_ ?_ (fun es c hm hw => ?_)
  · simp [World.mapDel, hw]
  · simp [World.mapDel, hw]
  · simp [World.mapDel, hw]
  · obtain ⟨es', c', h1, h2⟩ := hm.del s
    exact ⟨es', c', by simp only [World.mapDel, hw]; rw [← h1], h2⟩
end

/-! ### Less is said -/
class Sub (S F : Asn) : Prop where
  sub : ∀ x, (S * tru).says x → (F * tru).says x
instance Sub.refl (S : Asn) : Sub S S := ⟨fun _ h => h⟩
instance Sub.left (A B F : Asn) [s : Sub A F] : Sub (A * B) F := ⟨fun x h => by
  rw [sep_assoc] at h
  obtain ⟨a, b, h1, h2, h3, h4⟩ := h
  refine s.sub x ⟨a, b, h1, h2, h3, trivial⟩⟩
instance Sub.right (A B F : Asn) [s : Sub B F] : Sub (A * B) F := ⟨fun x h => by
  rw [sep_comm A B, sep_assoc] at h
  obtain ⟨a, b, h1, h2, h3, h4⟩ := h
  refine s.sub x ⟨a, b, h1, h2, h3, trivial⟩⟩
theorem Mod.sub {w w0 : World} {S : Asn} (F : Asn) [m : Mod w w0 S] [s : Sub S F] : Mod w w0 F := ⟨m.os, m.tape, m.output, s.sub _ m.says⟩
theorem Mod.start (w : World) : Mod w w (just (hp w)) :=
  ⟨rfl, rfl, rfl, hp w, Hp.none, fun _ => .inr rfl, by funext k; simp [Hp.join, Hp.none], rfl, trivial⟩
theorem Mod.below {w w' w0 : World} {S : Asn} [m : Mod w w0 S] (h : Go.RowKit.Below w.heap.size w w') : Mod w' w0 S := by
  refine ⟨h.os.trans m.os, h.tape.trans m.tape, h.output.trans m.output, ?_⟩
  obtain ⟨a, b, h1, h2, h3, _⟩ := m.says
  have hw : ∀ k, k < w.heap.size → hp w' k = hp w k := fun k hk => h.block k hk
  have hn : ∀ k, w.heap.size ≤ k → hp w k = none := fun k hk => Array.getElem?_eq_none hk
  refine ⟨a, fun k => if k < w.heap.size then b k else hp w' k, fun k => ?_, ?_, h3, trivial⟩
  · by_cases hk : k < w.heap.size
    · simp only [hk, if_true]; exact h1 k
    · left
      have := hn k (by omega)
      rw [h2] at this
      cases ha : a k with
      | none => rfl
      | some o => simp [Hp.join, ha] at this
  · funext k
    by_cases hk : k < w.heap.size
    · rw [hw k hk, h2]; simp [Hp.join, hk]
    · have := hn k (by omega)
      rw [h2] at this
      have ha : a k = none := by cases ha : a k with | none => rfl | some o => simp [Hp.join, ha] at this
      simp [Hp.join, hk, ha]
theorem below_of_mod {w w0 : World} (m : Mod w w0 (just (hp w0))) : Go.RowKit.Below w0.heap.size w0 w := by
  obtain ⟨a, b, h1, h2, h3, _⟩ := m.says
  have h3 : a = hp w0 := h3
  have key : ∀ k, k < w0.heap.size → w.heap[k]? = w0.heap[k]? := by
    intro k hk
    have e : hp w k = (hp w0 k).or (b k) := by rw [h2, h3]; rfl
    have e2 : hp w0 k = some w0.heap[k] := by simp [hp, hk]
    rw [e2] at e
    simp only [hp, Option.some_or] at e
    rw [e]; simp [hk]
  refine ⟨m.os, m.tape, m.output, ?_, key⟩
  rcases Nat.lt_or_ge w.heap.size w0.heap.size with h | h
  · have := key w.heap.size h
    rw [Array.getElem?_eq_none (Nat.le_refl _)] at this
    simp [h] at this
  · exact h
end Go.Sl
namespace Go.Sl
open Go

/-- Slice value v owns a row of cells of element type e (size cells an element), n elements, which read xs. -/
def rowA (e : TypeId) (size : Nat) (v : Value) (n : Nat) (xs : List Value) : Asn :=
  ⟨fun h => xs.length = n * size ∧ ((v = .slice none 0 0 ∧ n = 0 ∧ h = Hp.none) ∨
    ∃ g cap cur, v = .slice (some ⟨g, 0, none⟩) n cap ∧ n ≤ cap ∧ cap ≤ maxLen ∧ cur.size = cap * size ∧ cur.toList.take (n * size) = xs ∧ h = Hp.one g (.cells cur e (0, 0)))⟩
theorem rowA_nil (e : TypeId) (size : Nat) : (rowA e size (.slice none 0 0) 0 []).says Hp.none := ⟨by simp, .inl ⟨rfl, rfl, rfl⟩⟩
/-- The part of S that says A, seen from the world. -/
theorem Mod.part {w w0 : World} {A F : Asn} (m : Mod w w0 (A * F)) : ∃ a, A.says a ∧ ∀ k o, a k = some o → w.heap[k]? = some o := by
  have h := m.says
  rw [sep_assoc] at h
  obtain ⟨a, b, _, h2, h3, _⟩ := h
  refine ⟨a, h3, fun k o hk => ?_⟩
  have : hp w k = some o := by rw [h2]; simp [Hp.join, hk]
  exact this
theorem owns_of_row {w w0 : World} {e : TypeId} {size n : Nat} {v : Value} {xs : List Value} {F : Asn} (m : Mod w w0 (rowA e size v n xs * F)) : w.ownsRow 0 e size v n xs := by
  obtain ⟨a, ⟨hl, h⟩, hw⟩ := m.part
  refine ⟨hl, ?_⟩
  rcases h with ⟨hv, hn, _⟩ | ⟨g, cap, cur, hv, h1, h2, h3, h4, rfl⟩
  · exact .inl ⟨hv, hn⟩
  · exact .inr ⟨g, cap, cur, hv, Nat.zero_le _, hw g _ (by simp [Hp.one]), h1, h2, h3, h4⟩
/-- Behind a step that has turned the row alone, or made another one. -/
theorem Mod.rowStep {w w' w0 : World} {e : TypeId} {size n n' : Nat} {v v' : Value} {xs xs' : List Value} {F : Asn} (m : Mod w w0 (rowA e size v n xs * F))
    (hown : w'.ownsRow 0 e size v' n' xs') (hg : w.grownBy w' v.ownBlock) (hb : v'.ownBlock = v.ownBlock ∨ v'.ownBlock = some w.heap.size) : Mod w' w0 (rowA e size v' n' xs' * F) := by
  refine ⟨hg.os.trans m.os, hg.tape.trans m.tape, hg.output.trans m.output, ?_⟩
  have hs := m.says
  rw [sep_assoc] at hs ⊢
  obtain ⟨a, b, hab, hj, ⟨hl, ha⟩, hb'⟩ := hs
  have hlt : ∀ k o, b k = some o → k < w.heap.size := fun k o hk => by
    have : hp w k = some o := by
      rw [hj]
      rcases hab k with h | h
      · simp [Hp.join, h, hk]
      · rw [hk] at h; cases h
    exact (Array.getElem?_eq_some_iff.1 this).1
  have hnew : ∀ k, w.heap.size ≤ k → a k = none ∧ b k = none := fun k hk => by
    have h0 : hp w k = none := Array.getElem?_eq_none hk
    rw [hj] at h0
    cases h1 : a k with
    | none => simp [Hp.join, h1] at h0; exact ⟨rfl, h0⟩
    | some o => simp [Hp.join, h1] at h0
  -- the row's own block, if any, holds nothing of b
  have hown_b : ∀ g, v.ownBlock = some g → b g = none := fun g hg' => by
    rcases ha with ⟨hv, _, _⟩ | ⟨g0, cap, cur, hv, _, _, _, _, rfl⟩
    · rw [hv] at hg'; simp [Value.ownBlock] at hg'
    · rw [hv] at hg'
      simp [Value.ownBlock] at hg'
      subst hg'
      rcases hab g0 with h | h
      · simp [Hp.one] at h
      · exact h
  have hkeep : ∀ k o, b k = some o → w'.heap[k]? = some o := fun k o hk => by
    rw [hg.block k (hlt k o hk) (fun e => by rw [hown_b k e.symm] at hk; cases hk)]
    have : hp w k = some o := by
      rw [hj]
      rcases hab k with h | h
      · simp [Hp.join, h, hk]
      · rw [hk] at h; cases h
    exact this
  rcases hown.2 with ⟨hv', hn'⟩ | ⟨g, cap, cur, hv', _, hh, h1, h2, h3, h4⟩
  · -- an empty row
    refine ⟨Hp.none, hp w', Hp.none_apart _, by rw [Hp.join_none], ⟨hown.1, .inl ⟨hv', hn', rfl⟩⟩, ?_⟩
    obtain ⟨f, t, hft, hbj, hf, _⟩ := hb'
    refine ⟨f, fun k => if (f k).isSome then none else hp w' k, fun k => ?_, ?_, hf, trivial⟩
    · cases hk : f k with
      | none => exact .inl rfl
      | some o => right; simp [hk]
    · funext k
      cases hk : f k with
      | none => simp [Hp.join, hk]
      | some o =>
        have hbk : b k = some o := by rw [hbj]; simp [Hp.join, hk]
        simp [Hp.join, hk, hp, hkeep k o hbk]
  · have hbg : b g = none := by
      have e0 : v'.ownBlock = some g := by rw [hv']; rfl
      rcases hb with e | e
      · exact hown_b g (by rw [← e]; exact e0)
      · rw [e0] at e
        injection e with e
        rw [e]
        exact (hnew _ (Nat.le_refl _)).2
    obtain ⟨f, t, hft, hbj, hf, _⟩ := hb'
    have hfg : f g = none := by
      have := hbg
      rw [hbj] at this
      cases hk : f g with
      | none => rfl
      | some o => simp [Hp.join, hk] at this
    refine ⟨Hp.one g (.cells cur e (0, 0)), fun k => if k = g then none else hp w' k, fun k => ?_, ?_, ⟨hown.1, .inr ⟨g, cap, cur, hv', h1, h2, h3, h4, rfl⟩⟩, ?_⟩
    · by_cases hk : k = g
      · right; simp [hk]
      · left; simp [Hp.one, hk]
    · funext k
      by_cases hk : k = g
      · subst hk; simp [Hp.join, Hp.one, hp, hh]
      · simp [Hp.join, Hp.one, hk]
    · refine ⟨f, fun k => if k = g ∨ (f k).isSome then none else hp w' k, fun k => ?_, ?_, hf, trivial⟩
      · cases hk : f k with
        | none => exact .inl rfl
        | some o => right; simp [hk]
      · funext k
        by_cases hkg : k = g
        · subst hkg; simp [Hp.join, hfg]
        · cases hk : f k with
          | none => simp [Hp.join, hk, hkg]
          | some o =>
            have hbk : b k = some o := by rw [hbj]; simp [Hp.join, hk]
            simp [Hp.join, hk, hkg, hp, hkeep k o hbk]

/-- S knows what a slice reads. -/
class Reads (S : Asn) (A : Option Addr) (n : Nat) (xs : outParam (List Value)) : Prop where
  len : ∀ h, S.says h → xs.length = n
  cell : ∀ h, S.says h → 0 < n → ∃ ad, A = some ad ∧ ad.spot = none ∧ ∀ j u, xs[j]? = some u → ∃ c e f, h ad.block = some (.cells c e f) ∧ c[ad.off + j]? = some u
instance Reads.left (A B : Asn) (a : Option Addr) (n : Nat) (xs : List Value) [r : Reads A a n xs] : Reads (A * B) a n xs :=
  ⟨by rintro h ⟨x, y, _, rfl, h1, _⟩; exact r.len x h1, by
    rintro h ⟨x, y, _, rfl, h1, _⟩ hn
    obtain ⟨ad, ha, hs, hc⟩ := r.cell x h1 hn
    refine ⟨ad, ha, hs, fun j u hu => ?_⟩
    obtain ⟨c, e, f, hh, hcc⟩ := hc j u hu
    exact ⟨c, e, f, by simp [Hp.join, hh], hcc⟩⟩
instance Reads.right (A B : Asn) (a : Option Addr) (n : Nat) (xs : List Value) [r : Reads B a n xs] : Reads (A * B) a n xs :=
  ⟨by rintro h ⟨x, y, _, rfl, _, h1⟩; exact r.len y h1, by
    rintro h ⟨x, y, hxy, rfl, _, h1⟩ hn
    obtain ⟨ad, ha, hs, hc⟩ := r.cell y h1 hn
    refine ⟨ad, ha, hs, fun j u hu => ?_⟩
    obtain ⟨c, e, f, hh, hcc⟩ := hc j u hu
    refine ⟨c, e, f, ?_, hcc⟩
    rcases hxy ad.block with h | h
    · simp [Hp.join, h, hh]
    · rw [h] at hh; cases hh⟩
instance Reads.row (e : TypeId) (a : Option Addr) (n c : Nat) (xs : List Value) : Reads (rowA e 1 (.slice a n c) n xs) a n xs :=
  ⟨fun h hh => by have := hh.1; simpa using this, fun h hh hn => by
    rcases hh.2 with ⟨_, h0, _⟩ | ⟨g, cap, cur, hv, h1, h2, h3, h4, rfl⟩
    · omega
    · injection hv with hv
      refine ⟨_, hv, rfl, fun j u hu => ⟨cur, e, (0, 0), by simp [Hp.one], ?_⟩⟩
      rw [← h4] at hu
      rw [List.getElem?_take] at hu
      split at hu
      · simpa using hu
      · cases hu⟩
theorem reads_cell {w w0 : World} {S : Asn} {A : Option Addr} {n : Nat} {xs : List Value} (m : Mod w w0 S) (r : Reads S A n xs) (hn : 0 < n) :
    ∃ ad, A = some ad ∧ ad.spot = none ∧ ∀ j u, xs[j]? = some u → w.cell? ⟨ad.block, ad.off + j, none⟩ = some u := by
  obtain ⟨a, b, _, h2, h3, _⟩ := m.says
  obtain ⟨ad, ha, hs, hc⟩ := r.cell a h3 hn
  refine ⟨ad, ha, hs, fun j u hu => ?_⟩
  obtain ⟨c, e, f, hh, hcc⟩ := hc j u hu
  have : hp w ad.block = some (.cells c e f) := by rw [h2]; simp [Hp.join, hh]
  have this : w.heap[ad.block]? = some (.cells c e f) := this
  simp [World.cell?, this, hcc]
theorem reads_len {w w0 : World} {S : Asn} {A : Option Addr} {n : Nat} {xs : List Value} (m : Mod w w0 S) (r : Reads S A n xs) : xs.length = n := by
  obtain ⟨a, b, _, h2, h3, _⟩ := m.says
  exact r.len a h3
theorem add_off (ad : Addr) (j : Nat) (h : ad.spot = none) : ad.add j = ⟨ad.block, ad.off + j, none⟩ := by
  unfold Addr.add
  cases ad with
  | mk b o s =>
    simp at h
    subst h
    by_cases hj : j = 0 <;> simp [hj]

/-- append of a slice that is read onto a row of one's own (elements of one cell). -/
theorem run_append_row {P : Program} {w w0 : World} {S F : Asn} (t ty e : TypeId) (i : TypeInfo) (z : Value) (bytes : Nat) (ht : P.underlying t = some (.slice e)) (hi : P.info? e = some i) (hz : i.zero = some z)
    (hsize : i.size = 1) (hby : i.bytes = bytes) (hzs : z.cells.size = 1) (v : Value) (n : Nat) (xs : List Value) (m : Mod w w0 (rowA e 1 v n xs * F))
    (A : Option Addr) (k c : Nat) (news : List Value) [mS : Mod w w0 S] [r : Reads S A k news] (h1 : ∀ u ∈ news, u.oneCell' = true) (h63 : n + k ≤ maxLen) (hbytes : (n + k) * bytes ≤ 140737488355328) :
    ∃ v' w', (Builtin.append_ #[t, t] ty #[v, .slice A k c]).run P w = .ok v' w' ∧ Mod w' w0 (rowA e 1 v' (n + k) (xs ++ news) * F) ∧ (v' = .slice none 0 0 ∨ ∃ g cap, v' = .slice (some ⟨g, 0, none⟩) (n + k) cap) := by
  have hown := owns_of_row m
  have hlen := reads_len mS r
  rcases Nat.eq_zero_or_pos k with hk | hk
  · subst hk
    have hnews : news = [] := List.eq_nil_of_length_eq_zero hlen
    subst hnews
    refine ⟨v, w, ?_, by simpa using m, ?_⟩
    · rcases hown.2 with ⟨rfl, rfl⟩ | ⟨g, cap, cur, rfl, _, hh, hnc, _⟩
      · cases A <;> simp [Builtin.append_, run_underlying ht, sizeOf, typeInfo, hi, Builtin.lenOf, Builtin.firstCells, loadCells, loadCellsFrom]
      · cases A <;> simp [Builtin.append_, run_underlying ht, sizeOf, typeInfo, hi, Builtin.lenOf, Builtin.firstCells, loadCells, loadCellsFrom, hnc, storeCells]
    · rcases hown.2 with ⟨rfl, rfl⟩ | ⟨g, cap, cur, rfl, _⟩
      · exact .inl rfl
      · exact .inr ⟨g, cap, rfl⟩
  · obtain ⟨ad, rfl, hs, hc⟩ := reads_cell mS r hk
    obtain ⟨v', w', hrun, h2, h3, h4, h5⟩ := run_append_own_at (P := P) w 0 t ty e i z 1 bytes ht hi hz hsize hby hzs (by omega) v n xs hown ad k c news (by simpa using hlen)
      (fun j u hu => by rw [add_off ad j hs]; exact hc j u hu) h1 h63 hbytes (Nat.zero_le _)
    refine ⟨v', w', hrun, m.rowStep h2 h3 h5, ?_⟩
    rcases h2.2 with ⟨rfl, h0⟩ | ⟨g, cap, cur, rfl, _⟩
    · omega
    · exact .inr ⟨g, cap, rfl⟩
theorem wpList_append_row {P : Program} {w w0 : World} {S F : Asn} {ops : Array Oper} {rest : List Oper} {o : Oper} {a : Act} {Q : Exit → Act → World → Prop} (hgd : o.guard = none) (s x : Operand) (t : TypeId)
    (ho : o.op = .call { callee := .builtin .append, args := #[s, x], argTypes := #[t, t] })
    (e : TypeId) (i : TypeInfo) (z : Value) (bytes : Nat) (ht : P.underlying t = some (.slice e)) (hi : P.info? e = some i) (hz : i.zero = some z)
    (hsize : i.size = 1) (hby : i.bytes = bytes) (hzs : z.cells.size = 1) (v : Value) (n : Nat) (xs : List Value) (hs : a.eval s = v) (m : Mod w w0 (rowA e 1 v n xs * F))
    (A : Option Addr) (k c : Nat) (news : List Value) (hx : a.eval x = .slice A k c) [mS : Mod w w0 S] [r : Reads S A k news] (h1 : ∀ u ∈ news, u.oneCell' = true) (h63 : n + k ≤ maxLen) (hbytes : (n + k) * bytes ≤ 140737488355328)
    (h : ∀ v' w', Mod w' w0 (rowA e 1 v' (n + k) (xs ++ news) * F) → (v' = .slice none 0 0 ∨ ∃ g cap, v' = .slice (some ⟨g, 0, none⟩) (n + k) cap) → wpList P ops Q rest (a.put o.dst v') w') : wpList P ops Q (o :: rest) a w :=
  wpList_plain hgd fun _ hK => by
    obtain ⟨v', w', hrun, h2, h3⟩ := run_append_row (P := P) (S := S) t o.type e i z bytes ht hi hz hsize hby hzs v n xs m A k c news h1 h63 hbytes
    unfold Oper.wp execOp
    simp only [ho, resolve, invoke, builtin, Sem.run_bind, Sem.run_pure, Result.andThen_ok, List.map_toArray, List.map_cons, List.map_nil, hs, hx, hrun]
    exact hK _ _ (h v' w' h2 h3)
/-- What a walk wants to know of a slice's type whose elements are of one cell, once for a type. -/
def oneOk (P : Program) (e : TypeId) (bytes : Nat) : Bool := match P.info? e with
  | some i => (match i.zero with | some z => decide (z.cells.size = 1) | none => false) && decide (i.size = 1) && decide (i.bytes = bytes)
  | none => false
class RowT (P : Program) (t : TypeId) (e : outParam TypeId) (bytes : outParam Nat) : Prop where
  ht : P.underlying t = some (.slice e)
  ok : oneOk P e bytes = true
theorem RowT.get {P : Program} {t e : TypeId} {bytes : Nat} (T : RowT P t e bytes) : ∃ i z, P.info? e = some i ∧ i.zero = some z ∧ i.size = 1 ∧ i.bytes = bytes ∧ z.cells.size = 1 := by
  have h := T.ok
  unfold oneOk at h
  cases hi : P.info? e with
  | none => rw [hi] at h; cases h
  | some i =>
    rw [hi] at h
    cases hz : i.zero with
    | none => simp [hz] at h
    | some z => simp [hz] at h; exact ⟨i, z, rfl, hz, h.1.2, h.2, h.1.1⟩
/-- append of a slice that is read onto a row of one's own, at the operation. -/
theorem wpList_append {P : Program} {w w0 : World} {S0 F : Asn} {ops : Array Oper} {rest : List Oper} {o : Oper} {a : Act} {Q : Exit → Act → World → Prop} {s x : Operand} {t : TypeId} {e : TypeId} {bytes : Nat} [T : RowT P t e bytes] (hgd : o.guard = none)
    (ho : o.op = .call { callee := .builtin .append, args := #[s, x], argTypes := #[t, t] }) (m : Mod w w0 S0) {v : Value} {n : Nat} {xs : List Value} (hs : a.eval s = v) [tk : Take S0 (fun q : Nat × List Value => rowA e 1 v q.1 q.2) (n, xs) F]
    {A : Option Addr} {k c : Nat} {news : List Value} (hx : a.eval x = .slice A k c) [r : Reads S0 A k news] (h1 : ∀ u ∈ news, u.oneCell' = true) (h63 : n + k ≤ maxLen) (hbytes : (n + k) * bytes ≤ 140737488355328)
    (h : ∀ A' c' w', Mod w' w0 (rowA e 1 (.slice A' (n + k) c') (n + k) (xs ++ news) * F) → wpList P ops Q rest (a.put o.dst (.slice A' (n + k) c')) w') : wpList P ops Q (o :: rest) a w := by
  obtain ⟨i, z, hi, hz, hsize, hby, hzs⟩ := T.get
  have e0 : S0 = rowA e 1 v n xs * F := tk.eq
  refine wpList_append_row (S := S0) hgd s x t ho e i z bytes T.ht hi hz hsize hby hzs v n xs hs (Mod.to e0) A k c news hx h1 h63 hbytes fun v' w' m' hv => ?_
  have hv2 : ∃ A' c', v' = .slice A' (n + k) c' := by
    rcases (owns_of_row m').2 with ⟨h1, h2⟩ | ⟨g, cap, cur, h1, _⟩
    · exact ⟨none, 0, by rw [h1, h2]⟩
    · exact ⟨_, _, h1⟩
  obtain ⟨A', c', rfl⟩ := hv2
  exact h A' c' w' m'
instance Take.rowF (e : TypeId) (size : Nat) (v : Value) (n : Nat) (xs : List Value) : Take (rowA e size v n xs) (fun q : Nat × List Value => rowA e size v q.1 q.2) (n, xs) emp := ⟨(sep_emp _).symm⟩
theorem Reads.sub {S : Asn} {ad : Addr} {n : Nat} {xs : List Value} (r : Reads S (some ad) n xs) (i k : Nat) (h : i + k ≤ n) : Reads S (some (ad.add i)) k ((xs.drop i).take k) :=
  ⟨fun x hx => by have := r.len x hx; simp; omega, fun x hx hk => by
    obtain ⟨ad', ha, hs, hc⟩ := r.cell x hx (by omega)
    injection ha with ha
    subst ha
    refine ⟨_, rfl, ?_, fun j u hu => ?_⟩
    · rw [add_off _ _ hs]
    · rw [List.getElem?_take] at hu
      split at hu
      · rw [List.getElem?_drop] at hu
        obtain ⟨c, e, f, h1, h2⟩ := hc (i + j) u hu
        rw [add_off _ _ hs]
        exact ⟨c, e, f, h1, by rw [← h2]; congr 1; show _ + i + j = _; omega⟩
      · cases hu⟩
theorem Reads.part {S : Asn} {A : Option Addr} {n : Nat} {xs : List Value} (r : Reads S A n xs) (i k : Nat) (h : i + k ≤ n) : Reads S (A.map (·.add i)) k ((xs.drop i).take k) := by
  cases A with
  | some ad => exact r.sub i k h
  | none => exact ⟨fun x hx => by have := r.len x hx; simp; omega, fun x hx hk => by obtain ⟨ad', ha, _⟩ := r.cell x hx (by omega); cases ha⟩
theorem Reads.pre {S : Asn} {A : Option Addr} {n : Nat} {xs : List Value} (r : Reads S A n xs) (k : Nat) (h : k ≤ n) : Reads S A k (xs.take k) :=
  ⟨fun x hx => by have := r.len x hx; simp; omega, fun x hx hk => by
    obtain ⟨ad, ha, hs, hc⟩ := r.cell x hx (by omega)
    refine ⟨ad, ha, hs, fun j u hu => ?_⟩
    rw [List.getElem?_take] at hu
    split at hu
    · exact hc j u hu
    · cases hu⟩
theorem Reads.none_of {S : Asn} (A : Option Addr) : Reads S A 0 [] := ⟨fun _ _ => rfl, fun _ _ h => absurd h (by simp)⟩
/-- A row made behind all that was there. -/
theorem Mod.rowBelow {w w' w0 : World} {S : Asn} {e : TypeId} {size n : Nat} {v : Value} {xs : List Value} (m : Mod w w0 S) {N : Nat} (hN : N = w.heap.size) (hb : Go.RowKit.Below N w w') (hown : w'.ownsRow N e size v n xs) : Mod w' w0 (rowA e size v n xs * S) := by
  subst hN
  refine ⟨hb.os.trans m.os, hb.tape.trans m.tape, hb.output.trans m.output, ?_⟩
  obtain ⟨a, b, hab, hj, ha, _⟩ := m.says
  have hlt : ∀ k o, a k = some o → k < w.heap.size := fun k o hk => by
    have : hp w k = some o := by rw [hj]; simp [Hp.join, hk]
    exact (Array.getElem?_eq_some_iff.1 this).1
  have hkeep : ∀ k o, a k = some o → hp w' k = some o := fun k o hk => by
    have h1 : hp w k = some o := by rw [hj]; simp [Hp.join, hk]
    have h2 : hp w' k = hp w k := hb.block k (hlt k o hk)
    rw [h2, h1]
  rw [sep_assoc]
  rcases hown.2 with ⟨hv, hn⟩ | ⟨g, cap, cur, hv, hg, hh, h1, h2, h3, h4⟩
  · refine ⟨Hp.none, hp w', Hp.none_apart _, by rw [Hp.join_none], ⟨hown.1, .inl ⟨hv, hn, rfl⟩⟩, a, fun k => if (a k).isSome then none else hp w' k, fun k => ?_, ?_, ha, trivial⟩
    · cases hk : a k with
      | none => exact .inl rfl
      | some o => right; simp [hk]
    · funext k
      cases hk : a k with
      | none => simp [Hp.join, hk]
      | some o => simp [Hp.join, hk, hkeep k o hk]
  · have hag : a g = none := by
      cases hk : a g with
      | none => rfl
      | some o => have := hlt g o hk; omega
    refine ⟨Hp.one g (.cells cur e (0, 0)), fun k => if k = g then none else hp w' k, fun k => ?_, ?_, ⟨hown.1, .inr ⟨g, cap, cur, hv, h1, h2, h3, h4, rfl⟩⟩, a, fun k => if k = g ∨ (a k).isSome then none else hp w' k, fun k => ?_, ?_, ha, trivial⟩
    · by_cases hk : k = g
      · right; simp [hk]
      · left; simp [Hp.one, hk]
    · funext k
      by_cases hk : k = g
      · subst hk; simp [Hp.join, Hp.one, hp, hh]
      · simp [Hp.join, Hp.one, hk]
    · cases hk : a k with
      | none => exact .inl rfl
      | some o => right; simp [hk]
    · funext k
      by_cases hkg : k = g
      · subst hkg; simp [Hp.join, hag]
      · cases hk : a k with
        | none => simp [Hp.join, hk, hkg]
        | some o => simp [Hp.join, hk, hkg, hkeep k o hk]
end Go.Sl
namespace Go.Sl
open Go

/-- Block r is a map with entries L, block it an iterator over it; left: the entries still to come; cur: the entry at which it stands. -/
def iterA (it r : Nat) (L left : Pairs) (cur : Option (ByteArray × Value)) : Asn :=
  ⟨fun h => ∃ es clock seen, MapOk es clock L ∧ it ≠ r ∧ h = Hp.join (Hp.one r (.map es clock)) (Hp.one it (.mapIter (some r) clock seen clock)) ∧
    (es.toList.filter fun e => !seen.contains e.born).map (fun e => (e.key, e.val)) = left.map (fun p => (Value.string p.1, p.2)) ∧
    (∀ s v, cur = some (s, v) → ∃ e b, seen.back? = some b ∧ es.toList.find? (fun e => e.born == b) = some e ∧ e.key = .string s ∧ e.val = v)⟩
section
variable {P : Program} {w w0 : World} {S F : Asn} {r it : Nat} {L left : Pairs} {cur : Option (ByteArray × Value)}
instance HasMap.iter : HasMap (iterA it r L left cur) r L :=
  ⟨fun h ⟨es, c, seen, hm, _, hh, _⟩ => ⟨es, c, hm, by rw [hh]; simp [Hp.join, Hp.one]⟩⟩
theorem iter_parts (m : Mod w w0 (iterA it r L left cur * F)) : ∃ es clock seen, MapOk es clock L ∧ it ≠ r ∧ w.heap[r]? = some (.map es clock) ∧ w.heap[it]? = some (.mapIter (some r) clock seen clock) ∧
    (es.toList.filter fun e => !seen.contains e.born).map (fun e => (e.key, e.val)) = left.map (fun p => (Value.string p.1, p.2)) ∧
    (∀ s v, cur = some (s, v) → ∃ e b, seen.back? = some b ∧ es.toList.find? (fun e => e.born == b) = some e ∧ e.key = .string s ∧ e.val = v) := by
  have h := m.says
  rw [sep_assoc] at h
  obtain ⟨a, b, _, h2, ⟨es, c, seen, hm, hne, ha, hl, hc⟩, _⟩ := h
  refine ⟨es, c, seen, hm, hne, ?_, ?_, hl, hc⟩
  · have : hp w r = some (.map es c) := by rw [h2, ha]; simp [Hp.join, Hp.one]
    exact this
  · have : hp w it = some (.mapIter (some r) c seen c) := by rw [h2, ha]; simp [Hp.join, Hp.one, hne]
    exact this
/-- The world behind 'range' over a map. -/
def _root_.Go.World.rangeOn (w : World) (r : Nat) : World :=
  match w.heap[r]? with
  | some (.map _ clock) => w.alloc (.mapIter (some r) clock #[] clock)
  | _ => w
theorem run_range_smap {t : TypeId} [Mod w w0 S] [HasMap S r L] [T : SMap P t] : (Instr.range t (.map (some r))).run P w = .ok (.pointer (some ⟨w.heap.size, 0, none⟩)) (w.rangeOn r) := by
  obtain ⟨es, c, hm, hw⟩ := mapBlock (w0 := w0) (S := S) (r := r) (L := L) w
  simp [Instr.range, run_underlying T.map, run_getObj_at hw, World.rangeOn, hw]
attribute [go_sem] run_range_smap
instance Mod.rangeOn {n : Nat} [hn : HpSize w n] [m : Mod w w0 S] [t : Take S (smap r) L F] : Mod (w.rangeOn r) w0 (iterA n r L L none * F) := by
  obtain rfl := hn.eq
  have hb : HasMap S r L := by rw [t.eq]; infer_instance
  have h := m.says
  rw [t.eq, sep_assoc] at h
  obtain ⟨a, b, hab, h2, ⟨es, c, hm, ha⟩, hb'⟩ := h
  have hw : w.heap[r]? = some (.map es c) := by
    have : hp w r = some (.map es c) := by rw [h2, ha]; simp [Hp.join, Hp.one]
    exact this
  have hr : r < w.heap.size := (Array.getElem?_eq_some_iff.1 hw).1
  have hwr : w.rangeOn r = w.alloc (.mapIter (some r) c #[] c) := by simp [World.rangeOn, hw]
  rw [hwr]
  refine ⟨m.os, m.tape, m.output, ?_⟩
  rw [sep_assoc]
  obtain ⟨e1, e2⟩ := hp_alloc w (.mapIter (some r) c #[] c)
  refine ⟨Hp.join (Hp.one r (.map es c)) (Hp.one w.heap.size (.mapIter (some r) c #[] c)), b, ?_, ?_, ⟨es, c, #[], hm, by omega, rfl, ?_, fun s v h => by cases h⟩, hb'⟩
  · intro k
    by_cases hk : k = w.heap.size
    · right
      have h0 : hp w k = none := by rw [hk]; simp [hp]
      rw [h2] at h0
      cases h1 : a k with
      | none => simpa [Hp.join, h1] using h0
      | some o => simp [Hp.join, h1] at h0
    · rcases hab k with h | h
      · left
        rw [ha] at h
        simp only [Hp.join, h, Option.none_or]
        simp [Hp.one, hk]
      · exact .inr h
  · rw [e1, h2, ha]
    funext k
    simp only [Hp.join]
    by_cases hk : k = w.heap.size
    · have : Hp.one r (Obj.map es c) k = none := by simp only [Hp.one]; rw [if_neg (by omega)]
      simp [Hp.one, hk]
      rw [if_neg (by omega)]; simp
    · have : Hp.one w.heap.size (Obj.mapIter (some r) c #[] c) k = none := by simp [Hp.one, hk]
      simp [this]
  · have : (es.toList.filter fun e => !(#[] : Array Nat).contains e.born) = es.toList := by rw [List.filter_eq_self]; intro e _; simp
    rw [this]; exact hm.keys
/-- The entry at which an iterator stands. -/
class HasCur (S : Asn) (it : Nat) (s : outParam ByteArray) (v : outParam Value) : Prop where
  has : ∀ h, S.says h → ∃ r es clock seen e b, h r = some (.map es clock) ∧ h it = some (.mapIter (some r) clock seen clock) ∧ seen.back? = some b ∧ es.toList.find? (fun e => e.born == b) = some e ∧ e.key = .string s ∧ e.val = v
instance HasCur.iter {s : ByteArray} {v : Value} : HasCur (iterA it r L left (some (s, v))) it s v :=
  ⟨fun h ⟨es, c, seen, hm, hne, hh, _, hc⟩ => by
    obtain ⟨e, b, h1, h2, h3, h4⟩ := hc s v rfl
    exact ⟨r, es, c, seen, e, b, by rw [hh]; simp [Hp.join, Hp.one], by rw [hh]; simp [Hp.join, Hp.one, hne], h1, h2, h3, h4⟩⟩
instance HasCur.fromLeft (A B : Asn) {s : ByteArray} {v : Value} [q : HasCur A it s v] : HasCur (A * B) it s v :=
  ⟨by
    rintro h ⟨x, y, _, rfl, h1, _⟩
    obtain ⟨r, es, c, seen, e, b, h2, h3, h4⟩ := q.has x h1
    exact ⟨r, es, c, seen, e, b, by simp [Hp.join, h2], by simp [Hp.join, h3], h4⟩⟩
instance HasCur.fromRight (A B : Asn) {s : ByteArray} {v : Value} [q : HasCur B it s v] : HasCur (A * B) it s v :=
  ⟨by
    rintro h ⟨x, y, hxy, rfl, _, h1⟩
    obtain ⟨r, es, c, seen, e, b, h2, h3, h4⟩ := q.has y h1
    refine ⟨r, es, c, seen, e, b, ?_, ?_, h4⟩
    · rcases hxy r with h | h
      · simp [Hp.join, h, h2]
      · rw [h] at h2; cases h2
    · rcases hxy it with h | h
      · simp [Hp.join, h, h3]
      · rw [h] at h3; cases h3⟩
@[go_sem] theorem run_entry_cur {s : ByteArray} {v : Value} [m : Mod w w0 S] [q : HasCur S it s v] : (Instr.entry (.pointer (some ⟨it, 0, none⟩))).run P w = .ok (.tuple #[.string s, v]) w := by
  obtain ⟨a, b0, _, h2, h3, _⟩ := m.says
  obtain ⟨r, es, c, seen, e, b, hr, hi, hb, hf, hk, hv⟩ := q.has a h3
  have hwr : w.heap[r]? = some (.map es c) := by
    have : hp w r = some (.map es c) := by rw [h2]; simp [Hp.join, hr]
    exact this
  have hwi : w.heap[it]? = some (.mapIter (some r) c seen c) := by
    have : hp w it = some (.mapIter (some r) c seen c) := by rw [h2]; simp [Hp.join, hi]
    exact this
  have hf' : es.find? (fun e => e.born == b) = some e := by rw [← Array.find?_toList]; exact hf
  simp [Instr.entry, run_getObj_at hwr, run_getObj_at hwi, hb, hf', hk, hv]
theorem eraseIdx_filter_born : ∀ (l : List MapEntry) (i : Nat) (hi : i < l.length), l.Pairwise (fun a b => a.born < b.born) → l.filter (fun e => !decide (e.born = l[i].born)) = l.eraseIdx i
  | [], i, hi, _ => by simp at hi
  | e :: l, 0, _, h => by
    obtain ⟨h1, h2⟩ := List.pairwise_cons.1 h
    simp only [List.getElem_cons_zero, List.eraseIdx_zero, List.tail_cons]
    rw [List.filter_cons, if_neg (by simp), List.filter_eq_self]
    intro x hx
    have := h1 x hx
    simp; omega
  | e :: l, i + 1, hi, h => by
    obtain ⟨h1, h2⟩ := List.pairwise_cons.1 h
    have hi' : i < l.length := by simpa using hi
    simp only [List.getElem_cons_succ, List.eraseIdx_cons_succ]
    have := h1 _ (List.getElem_mem hi')
    rw [List.filter_cons, if_pos (by simp; omega), eraseIdx_filter_born l i hi' h2]
theorem all_old {es : Array MapEntry} {c : Nat} (hm : MapOk es c L) (p : MapEntry → Bool) : ((es.filter p).filter (fun e => decide (e.born < c))).toList = es.toList.filter p ∧ ((es.filter p).filter (fun e => decide (e.born ≥ c))).toList = [] := by
  constructor
  · rw [Array.toList_filter, Array.toList_filter, List.filter_eq_self]
    intro e he
    have := hm.lt e (List.mem_filter.1 he).1
    simpa using this
  · rw [Array.toList_filter, Array.toList_filter, List.filter_eq_nil_iff]
    intro e he
    have := hm.lt e (List.mem_filter.1 he).1
    simp; omega
/-- One step of an iterator: it is at its end, or goes to one of the entries that are left. -/
theorem run_next_smap (m : Mod w w0 (iterA it r L left cur * F)) (ty : TypeId) :
    (left = [] ∧ ∃ w', (Instr.next (.pointer (some ⟨it, 0, none⟩)) false ty).run P w = .ok (.tuple #[.bool false]) w' ∧ Mod w' w0 (iterA it r L [] cur * F)) ∨
    ∃ (i : Nat) (hi : i < left.length) (w' : World), (Instr.next (.pointer (some ⟨it, 0, none⟩)) false ty).run P w = .ok (.tuple #[.bool true, .string left[i].1, left[i].2]) w' ∧ Mod w' w0 (iterA it r L (left.eraseIdx i) (some left[i]) * F) := by
  obtain ⟨es, c, seen, hm, hne, hwr, hwi, hl, hc⟩ := iter_parts m
  generalize hfl : es.toList.filter (fun e => !seen.contains e.born) = fl at hl
  have hlen : fl.length = left.length := by have := congrArg List.length hl; simpa using this
  have hguard : (!seen.isEmpty && !es.isEmpty && es.all (fun e => decide (e.born ≥ c))) = false := by
    cases he : es.isEmpty with
    | true => simp
    | false =>
      have : es.all (fun e => decide (e.born ≥ c)) = false := by
        rw [← Array.all_toList]
        cases hes : es.toList with
        | nil => simp [Array.isEmpty, ← Array.length_toList, hes] at he
        | cons e l =>
          have := hm.lt e (by rw [hes]; simp)
          simp only [List.all_cons, Bool.and_eq_false_iff]
          left; simp; omega
      rw [this]; simp
  obtain ⟨ho, hn⟩ := all_old hm (fun e => !seen.contains e.born)
  rw [hfl] at ho
  have hoA : ((es.filter (fun e => !seen.contains e.born)).filter (fun e => decide (e.born < c))) = fl.toArray := by rw [← ho]
  have hnA : ((es.filter (fun e => !seen.contains e.born)).filter (fun e => decide (e.born ≥ c))) = #[] := by apply Array.ext'; rw [hn]
  have gi : (getObj it).run P w = .ok (.mapIter (some r) c seen c) w := run_getObj_at hwi (by intros; simp)
  have gr : (getObj r).run P w = .ok (.map es c) w := run_getObj_at hwr (by intros; simp)
  have hraw : (Instr.next (.pointer (some ⟨it, 0, none⟩)) false ty).run P w = ((choose (.mapNext ((if fl.toArray.isEmpty then #[none] else #[]) ++ fl.toArray.map some).size)).run P w).andThen fun n w' =>
      (match ((if fl.toArray.isEmpty then #[none] else #[]) ++ fl.toArray.map some)[n]? with
        | some (some e) => (do setObj it (.mapIter (some r) c (seen.push e.born) c); pure (.tuple #[.bool true, e.key, e.val]) : Sem Value)
        | some none => pure (.tuple #[.bool false])
        | none => stuck "Next: no such candidate").run P w' := by
    simp only [Instr.next, Sem.run_bind, gi, gr, Result.andThen_ok]
    rw [if_neg (by rw [hguard]; simp)]
    simp only [hoA, hnA, Array.append_empty]
    exact Sem.run_bind P w _ _
  cases hleft : left with
  | nil =>
    left
    have hfl0 : fl = [] := List.eq_nil_of_length_eq_zero (by rw [hlen, hleft]; rfl)
    subst hfl0
    refine ⟨rfl, w, ?_, by rw [← hleft]; exact m⟩
    rw [hraw]; simp [Question.forced]
  | cons p0 left0 =>
    right
    rw [← hleft]
    have hpos : 0 < fl.length := by rw [hlen, hleft]; simp
    -- which one is chosen
    have hcand : ∃ (i : Nat) (hi : i < fl.length) (w1 : World), w1.heap = w.heap ∧ w1.os = w.os ∧ w1.tape = w.tape ∧ w1.output = w.output ∧
        (choose (.mapNext fl.length)).run P w = .ok i w1 := by
      by_cases h1 : fl.length ≤ 1
      · exact ⟨0, hpos, w, rfl, rfl, rfl, rfl, by simp [Question.forced, h1]⟩
      · exact ⟨(w.tape w.drawn (.mapNext fl.length)) % fl.length, Nat.mod_lt _ hpos, w.drew, rfl, rfl, rfl, rfl, by simp [Question.forced, h1, Question.cut]⟩
    obtain ⟨i, hi, w1, hh, hos, htp, hout, hrun⟩ := hcand
    have hi' : i < left.length := by rw [← hlen]; exact hi
    have hkv : fl[i].key = .string left[i].1 ∧ fl[i].val = left[i].2 := by
      have := congrArg (fun l => l[i]?) hl
      simp [hi, hi'] at this
      exact this
    have hmem : fl[i] ∈ es.toList ∧ seen.contains fl[i].born = false := by
      have : fl[i] ∈ es.toList.filter (fun e => !seen.contains e.born) := by rw [hfl]; exact List.getElem_mem hi
      have := List.mem_filter.1 this
      exact ⟨this.1, by simpa using this.2⟩
    have hwi1 : w1.heap[it]? = some (.mapIter (some r) c seen c) := by rw [hh]; exact hwi
    have hsz : it < w.heap.size := (Array.getElem?_eq_some_iff.1 hwi).1
    refine ⟨i, hi', { w1 with heap := w1.heap.setIfInBounds it (.mapIter (some r) c (seen.push fl[i].born) c) }, ?_, ?_⟩
    · have hne0 : fl ≠ [] := by intro e; rw [e] at hpos; simp at hpos
      have he : fl.toArray.isEmpty = false := by simp [hne0]
      rw [hraw, he]
      simp only [Bool.false_eq_true, if_false, Array.empty_append, Array.size_map, List.size_toArray, hrun, Result.andThen_ok]
      simp [hi, run_setObj_at hwi1, hkv]
    · have hpw : fl.Pairwise (fun a b => a.born < b.born) := by rw [← hfl]; exact hm.born.sublist List.filter_sublist
      have h := m.says
      rw [sep_assoc] at h
      obtain ⟨a, b, hab, h2, ⟨es', c', seen', hm', _, ha, hl', _⟩, hb'⟩ := h
      refine ⟨hos.trans m.os, htp.trans m.tape, hout.trans m.output, ?_⟩
      rw [sep_assoc]
      have e1 : es' = es ∧ c' = c := by
        have : hp w r = some (.map es' c') := by rw [h2, ha]; simp [Hp.join, Hp.one]
        have h0 : hp w r = some (.map es c) := hwr
        rw [h0] at this; injection this with this; injection this with x y; exact ⟨x.symm, y.symm⟩
      have e2 : seen' = seen := by
        have : hp w it = some (.mapIter (some r) c' seen' c') := by rw [h2, ha]; simp [Hp.join, Hp.one, hne]
        have h0 : hp w it = some (.mapIter (some r) c seen c) := hwi
        rw [h0] at this; injection this with this; injection this with _ _ z _; exact z.symm
      obtain ⟨rfl, rfl⟩ := e1
      subst e2
      refine ⟨Hp.join (Hp.one r (.map es' c')) (Hp.one it (.mapIter (some r) c' (seen'.push fl[i].born) c')), b, ?_, ?_, ⟨es', c', _, hm, hne, rfl, ?_, ?_⟩, hb'⟩
      · intro k
        rcases hab k with h | h
        · left
          rw [ha] at h
          simp only [Hp.join] at h ⊢
          by_cases hk : k = it
          · subst hk; simp [Hp.one, hne] at h
          · by_cases hkr : k = r
            · subst hkr; simp [Hp.one] at h
            · simp [Hp.one, hk, hkr]
        · exact .inr h
      · funext k
        show (w1.heap.setIfInBounds it _)[k]? = _
        rw [hh]
        by_cases hk : k = it
        · subst hk; simp [Hp.join, Hp.one, hne, hsz]
        · rw [Array.getElem?_setIfInBounds_ne (Ne.symm hk)]
          have : hp w k = Hp.join a b k := by rw [h2]
          have this : w.heap[k]? = Hp.join a b k := this
          rw [this, ha]
          simp only [Hp.join]
          simp [Hp.one, hk]
      · rw [map_eraseIdx', ← hl, ← map_eraseIdx', ← eraseIdx_filter_born fl i hi hpw]
        generalize fl[i].born = bb
        rw [← hfl, List.filter_filter]
        congr 1
        apply List.filter_congr
        intro e _
        simp [Array.mem_push, Bool.and_comm]
      · rintro s v hcur
        have hs : left[i].1 = s ∧ left[i].2 = v := by injection hcur with h; rw [h]; exact ⟨rfl, rfl⟩
        refine ⟨fl[i], fl[i].born, by simp, ?_, by rw [hkv.1, hs.1], by rw [hkv.2, hs.2]⟩
        have huniq : ∀ x ∈ es'.toList, x.born = fl[i].born → x = fl[i] := by
          intro x hx hb
          obtain ⟨n1, hn1, rfl⟩ := List.mem_iff_getElem.1 hx
          obtain ⟨n2, hn2, h2'⟩ := List.mem_iff_getElem.1 hmem.1
          rw [← h2'] at hb ⊢
          have := List.pairwise_iff_getElem.1 hm.born
          rcases Nat.lt_trichotomy n1 n2 with h | h | h
          · have := this n1 n2 hn1 hn2 h; omega
          · subst h; rfl
          · have := this n2 n1 hn2 hn1 h; omega
        cases hfind : es'.toList.find? (fun e => e.born == fl[i].born) with
        | none =>
          have := List.find?_eq_none.1 hfind _ hmem.1
          simp at this
        | some x =>
          have hx := List.mem_of_find?_eq_some hfind
          have hb := List.find?_some hfind
          rw [huniq x hx (by simpa using hb)]
/-- The iterator forgotten, the map is a map again. -/
theorem iter_end (m : Mod w w0 (iterA it r L left cur * F)) : Mod w w0 (smap r L * F) := by
  have h := m.says
  rw [sep_assoc] at h
  obtain ⟨a, b, hab, h2, ⟨es, c, seen, hm, hne, ha, _, _⟩, hb⟩ := h
  refine ⟨m.os, m.tape, m.output, ?_⟩
  rw [sep_assoc]
  obtain ⟨f, t, hft, hbj, hf, _⟩ := hb
  have hbi : b it = none := by
    rcases hab it with h | h
    · rw [ha] at h; simp [Hp.join, Hp.one] at h
    · exact h
  have hfi : f it = none := by
    rw [hbj] at hbi
    cases hk : f it with
    | none => rfl
    | some o => simp [Hp.join, hk] at hbi
  refine ⟨Hp.one r (.map es c), Hp.join b (Hp.one it (.mapIter (some r) c seen c)), fun k => ?_, ?_, ⟨es, c, hm, rfl⟩, ⟨f, Hp.join t (Hp.one it (.mapIter (some r) c seen c)), fun k => ?_, ?_, hf, trivial⟩⟩
  · by_cases hk : k = r
    · right
      subst hk
      rcases hab k with h | h
      · rw [ha] at h; simp [Hp.join, Hp.one] at h
      · simp only [Hp.join, h, Option.none_or, Hp.one]; rw [if_neg (fun e => hne e.symm)]
    · left; simp [Hp.one, hk]
  · rw [h2, ha]
    funext k
    simp only [Hp.join, Hp.one]
    by_cases hk : k = r
    · subst hk; simp
    · by_cases hki : k = it
      · subst hki; simp [hk, hbi]
      · simp [hk, hki]
  · rcases hft k with h | h
    · exact .inl h
    · by_cases hki : k = it
      · left; rw [hki]; exact hfi
      · right; simp [Hp.join, h, Hp.one, hki]
  · rw [hbj]; exact Hp.join_assoc _ _ _
theorem wpList_next_smap {ops : Array Oper} {rest : List Oper} {o : Oper} {a : Act} {Q : Exit → Act → World → Prop} (hgd : o.guard = none) (x : Operand) (ho : o.op = .next x false) (hx : a.eval x = .pointer (some ⟨it, 0, none⟩))
    (m : Mod w w0 (iterA it r L left cur * F))
    (h0 : left = [] → ∀ w', Mod w' w0 (iterA it r L [] cur * F) → wpList P ops Q rest (a.put o.dst (.tuple #[.bool false])) w')
    (h1 : ∀ (i : Nat) (hi : i < left.length) (w' : World), Mod w' w0 (iterA it r L (left.eraseIdx i) (some left[i]) * F) → wpList P ops Q rest (a.put o.dst (.tuple #[.bool true, .string left[i].1, left[i].2])) w') : wpList P ops Q (o :: rest) a w :=
  wpList_plain hgd fun _ hK => by
    unfold Oper.wp execOp
    rcases run_next_smap (P := P) m o.type with ⟨hl, w', hrun, hm⟩ | ⟨i, hi, w', hrun, hm⟩
    · simp only [ho, Sem.run_bind, hx, hrun, Result.andThen_ok, Sem.run_pure]
      exact hK _ _ (h0 hl w' hm)
    · simp only [ho, Sem.run_bind, hx, hrun, Result.andThen_ok, Sem.run_pure]
      exact hK _ _ (h1 i hi w' hm)
end
end Go.Sl
namespace Go.Sl
open Go Go.RowKit
theorem heap_putObj_ne (w : World) (g : Nat) (o : Obj) (k : Nat) (h : k ≠ g) : (w.putObj g o).heap[k]? = w.heap[k]? := World.putObj_heap_other h
theorem Mod.putObj {w w0 : World} {S F : Asn} {g : Nat} {o : Obj} (o' : Obj) [m : Mod w w0 S] [t : Take S (blk g) o F] : Mod (w.putObj g o') w0 (blk g o' * F) :=
  Mod.turn (w := w) (g := g) (u := o) (pred := blk g) rfl rfl rfl (fun k hk => heap_putObj_ne _ _ _ _ hk)
    (fun h hh => by rw [hh]; exact ⟨fun k hk => by simp [Hp.one, hk], by simp [Hp.one]⟩)
    (fun h hh hw => by
      rw [hh] at hw
      simp [Hp.one] at hw
      have hlt := (Array.getElem?_eq_some_iff.1 hw).1
      show _ = _
      funext k
      by_cases hk : k = g
      · subst hk; simp [Hp.one, World.putObj_heap_same hlt]
      · simp [Hp.one, hk])
theorem take_heap {w w0 : World} {S F : Asn} {g : Nat} {o : Obj} (m : Mod w w0 S) (t : Take S (blk g) o F) : w.heap[g]? = some o := by
  have hh : Has S g o := by rw [t.eq]; infer_instance
  exact Mod.heap (m := m)
/-- What an iterator's caller owes it at each call of yield: the round ends with true, J carried on by the element, or with false, Jx at what has come; whatever else lies (X) stays. -/
def RoundsSl {α : Type} (P : Program) (w0 : World) (l : Nat) (encs : α → Array Value) (J Jx : List α → Asn) (N : List α → α → Prop) : Prop :=
  ∀ (pre : List α) (x : α) (X : Asn) (W : World), N pre x → Mod W w0 (J pre * X) → YieldAt Fence.wide 5 P l (encs x) W fun e W' =>
    (e = .returned (.bool true) ∧ Mod W' w0 (J (pre ++ [x]) * X)) ∨ (e = .returned (.bool false) ∧ Mod W' w0 (Jx (pre ++ [x]) * X))
/-- An iterator's value, over a state K of its own: it hands over what 'N' lets come; behind it all has come ('Sd'), or a round has said 'no more' ('Sp'). 'R': what it reads of its caller's. -/
def SeqSl {α : Type} (P : Program) (w0 : World) (gf : Nat) (lb : Array Value) (encs : α → Array Value) (R : Asn → Prop) (K : Asn) (K' : List α → Asn) (Sd Sp : List α → Prop) (N : List α → α → Prop) : Prop :=
  ∀ (l : Nat) (J Jx : List α → Asn) (W : World), (∀ pre, R (J pre)) → RoundsSl P w0 l encs J Jx N → Mod W w0 (J [] * K) →
    Calls P gf (#[.func (.yield l) #[] #[]] ++ lb) W fun e W' => (∃ v, e = .returned v) ∧
      ((∃ xs, Sd xs ∧ Mod W' w0 (J xs * K' xs)) ∨ (∃ pre, Sp pre ∧ Mod W' w0 (Jx pre * K' pre)))
/-- How the body of a round may be left. -/
def endsSl {α : Type} (w0 : World) (I : List α → Asn) (Ix : Code → List α → Asn) (X : Asn) (xs : List α) : Exit → Act → World → Prop
  | .normal, _, W' => Mod W' w0 (I xs * X)
  | .ret, _, W' => Mod W' w0 (Ix .ret xs * X)
  | .exit id, _, W' => Mod W' w0 (Ix (.exit id) xs * X)
  | .goto t, _, W' => Mod W' w0 (Ix (.goto t) xs * X)
  | .panic _, _, _ => False
  | .outgrown, _, _ => False
theorem mid_swap {A B C : Asn} : A * (B * C) = B * (A * C) := sep_left_comm A B C
/-- The statement 'for .. := range g { .. }' in a function's own code. -/
theorem wp_rangeFunc_sl {α : Type} {P : Program} {n : Nat} {g : Operand} {ps : Array Tmp} {assign body : Code} {Q : Exit → Act → World → Prop} {a : Act} {w w0 : World}
    {gf : Nat} {lb : Array Value} (hg : a.eval g = .func (.func gf) #[] lb) (eg : ∀ args w, (callFunc gf args).run P w = .ok (.enter gf args) w)
    {encs : α → Array Value} {R : Asn → Prop} {K : Asn} {K' : List α → Asn} {Sd Sp : List α → Prop} {N : List α → α → Prop} (hseq : SeqSl P w0 gf lb encs R K K' Sd Sp N) (hps : ∀ x, (encs x).size = ps.size)
    (I : List α → Asn) (Ix : Code → List α → Asn) (m : Mod w w0 (I [] * K)) (hR : ∀ pre Y, R (I pre * Y)) (a₁ : α → Act)
    (hassign : ∀ (l : Nat) (x : α) (W : World) (K : Act → World → Prop), K (a₁ x) W →
      assign.wpIn (Fence.wide.inRound l) 5 P (Exit.then K (fun _ _ _ => False)) { tmps := (ps.zip (encs x)).foldl (fun t (p, v) => t.setIfInBounds p v) a.tmps, defers := [] } W)
    (hbody : ∀ (l : Nat) (pre : List α) (x : α) (X : Asn) (W : World), N pre x → Mod W w0 (I pre * X) → body.wpIn (Fence.wide.inRound l) 5 P (endsSl w0 I Ix X (pre ++ [x])) (a₁ x) W)
    (hdone : ∀ (D : Nat) (xs : List α) (W : World), Sd xs → Mod W w0 (blk D (.deferred (some [])) * (I xs * K' xs)) → Q .normal { a with defers := { target := .collected D, args := #[] } :: a.defers } W)
    (hstop : ∀ (D : Nat) (c : Code) (pre : List α) (W : World), Sp pre → Mod W w0 (blk D (.deferred (some [])) * (Ix c pre * K' pre)) → c.wpIn Fence.wide n P Q { a with defers := { target := .collected D, args := #[] } :: a.defers } W) :
    (Code.rangeFunc g ps assign body).wpIn Fence.wide n P Q a w := by
  refine wpIn_rangeFunc ?_
  intro fn hfn
  obtain ⟨rec, hrec⟩ : ∃ rec : LoopState → Option Code → Loop, rec = fun st pe => { state := st, pending := pe, fn, tmps := a.tmps, params := ps, assign, body, defers := w.heap.size } := ⟨_, rfl⟩
  obtain ⟨W1, hW1⟩ : ∃ W1, (w.alloc (.deferred (some []))).alloc (.loop (rec .ready none)) = W1 := ⟨_, rfl⟩
  have m1 : Mod W1 w0 (blk (w.heap.size + 1) (.loop (rec .ready none)) * (blk w.heap.size (.deferred (some [])) * (I [] * K))) := by
    rw [← hW1]; exact Mod.alloc (m := Mod.alloc (m := m) (hn := ⟨rfl⟩) _) (hn := ⟨by simp⟩) _
  refine ⟨w.heap.size + 1, [{ target := .collected w.heap.size, args := #[] }], W1, { target := .fn (.func gf) lb, args := #[.func (.yield (w.heap.size + 1)) #[] #[]] }, W1, gf,
    #[.func (.yield (w.heap.size + 1)) #[] #[]] ++ lb, W1, ?_, ?_, fun _ _ => trivial, ?_, fun h => by simp [Fence.wide] at h, ?_⟩
  · rw [← hW1, hrec]; exact run_enterLoop_outer _ _ _ _ _
  · simp only [resolve, hg]
    simp [go_sem]
  · simp [invoke, go_sem, eg]
  · refine callsIn_wide.2 ((hseq (w.heap.size + 1)
      (fun pre => blk (w.heap.size + 1) (.loop (rec .ready none)) * (blk w.heap.size (.deferred (some [])) * I pre))
      (fun pre => ex fun c => blk (w.heap.size + 1) (.loop (rec .done (some c))) * (blk w.heap.size (.deferred (some [])) * Ix c pre)) W1 (fun pre => ?_) ?_ ?_).mono ?_)
    · have := hR pre (blk (w.heap.size + 1) (.loop (rec .ready none)) * blk w.heap.size (.deferred (some [])))
      rw [show blk (w.heap.size + 1) (.loop (rec .ready none)) * (blk w.heap.size (.deferred (some [])) * I pre) = I pre * (blk (w.heap.size + 1) (.loop (rec .ready none)) * blk w.heap.size (.deferred (some []))) from by ac_rfl]
      exact this
    · -- one round
      intro pre x X W hN mW
      have mW : Mod W w0 (blk (w.heap.size + 1) (.loop (rec .ready none)) * ((blk w.heap.size (.deferred (some [])) * I pre) * X)) := by rw [← sep_assoc]; exact mW
      have hl : W.heap[w.heap.size + 1]? = some (.loop (rec .ready none)) := take_heap mW inferInstance
      have hy := run_yield (P := P) (args := encs x) hl (by rw [hrec]; exact hps x)
      rw [hrec] at hy
      refine ⟨fn, _, assign, body, hy, roundIn_of_wpIn hfn (hassign _ x W _ ⟨_, run_beginRound hl (by rw [hrec]), ?_⟩)⟩
      have m2 := Mod.putObj (g := w.heap.size + 1) (.loop { rec .ready none with state := .busy }) (m := mW)
      refine wpIn_mono (hbody _ pre x (blk (w.heap.size + 1) (.loop { rec .ready none with state := .busy }) * (blk w.heap.size (.deferred (some [])) * X)) _ hN (Mod.to (m := m2) (by rw [emp_sep]; ac_rfl))) ?_
      have fin : ∀ (jump : Option Code) (G : Asn) (W3 : World), Mod W3 w0 (G * (blk (w.heap.size + 1) (.loop { rec .ready none with state := .busy }) * (blk w.heap.size (.deferred (some [])) * X))) →
          (Instr.endRound (w.heap.size + 1) jump).run P W3 = .ok (.bool jump.isNone) (W3.putObj (w.heap.size + 1) (.loop (rec (if jump.isNone then .ready else .done) jump))) ∧
          Mod (W3.putObj (w.heap.size + 1) (.loop (rec (if jump.isNone then .ready else .done) jump))) w0 ((blk (w.heap.size + 1) (.loop (rec (if jump.isNone then .ready else .done) jump)) * (blk w.heap.size (.deferred (some [])) * G)) * X) := fun jump G W3 m3 => by
        have hl3 : W3.heap[w.heap.size + 1]? = some (.loop { rec .ready none with state := .busy }) := take_heap m3 inferInstance
        have m4 := Mod.putObj (g := w.heap.size + 1) (.loop (rec (if jump.isNone then .ready else .done) jump)) (m := m3)
        have := run_endRound (P := P) jump hl3
        refine ⟨by rw [hrec] at this ⊢; exact this, Mod.to (m := m4) ?_⟩
        rw [emp_sep]; ac_rfl
      rintro e a3 W3 hp
      cases e with
      | normal =>
        obtain ⟨hr, m4⟩ := fin none _ W3 hp
        exact ⟨_, _, hr, .inl ⟨rfl, m4⟩⟩
      | ret =>
        obtain ⟨hr, m4⟩ := fin (some .ret) _ W3 hp
        exact ⟨_, _, hr, .inr ⟨rfl, Mod.shut .ret (m := m4)⟩⟩
      | exit id =>
        obtain ⟨hr, m4⟩ := fin (some (.exit id)) _ W3 hp
        exact ⟨_, _, hr, .inr ⟨rfl, Mod.shut (.exit id) (m := m4)⟩⟩
      | goto t =>
        obtain ⟨hr, m4⟩ := fin (some (.goto t)) _ W3 hp
        exact ⟨_, _, hr, .inr ⟨rfl, Mod.shut (.goto t) (m := m4)⟩⟩
      | panic ch => exact hp.elim
      | outgrown => exact hp.elim
    · exact Mod.to (m := m1) (by ac_rfl)
    · -- behind the iterator
      rintro e W2 ⟨⟨v, rfl⟩, (⟨xs, hS, m2⟩ | ⟨pre, hSp, m2⟩)⟩
      · have m2 : Mod W2 w0 (blk (w.heap.size + 1) (.loop (rec .ready none)) * ((blk w.heap.size (.deferred (some [])) * I xs) * K' xs)) := by rw [← sep_assoc]; exact m2
        have hl := take_heap (g := w.heap.size + 1) m2 inferInstance
        have m3 := Mod.putObj (g := w.heap.size + 1) (.loop { rec .ready none with state := .exhausted }) (m := m2)
        refine ⟨none, W2.putObj (w.heap.size + 1) (.loop { rec .ready none with state := .exhausted }), by have := run_endLoop (P := P) hl (by rw [hrec]; simp); subst hrec; exact this, ?_⟩
        rw [emp_sep, sep_assoc] at m3
        exact hdone _ xs _ hS (Mod.drop (m := m3))
      · obtain ⟨c, m2⟩ := Mod.open (m := m2)
        have m2 : Mod W2 w0 (blk (w.heap.size + 1) (.loop (rec .done (some c))) * ((blk w.heap.size (.deferred (some [])) * Ix c pre) * K' pre)) := by rw [← sep_assoc]; exact m2
        have hl := take_heap (g := w.heap.size + 1) m2 inferInstance
        have m3 := Mod.putObj (g := w.heap.size + 1) (.loop { rec .done (some c) with state := .exhausted }) (m := m2)
        refine ⟨some c, W2.putObj (w.heap.size + 1) (.loop { rec .done (some c) with state := .exhausted }), by have := run_endLoop (P := P) hl (by rw [hrec]; simp); subst hrec; exact this, ?_⟩
        rw [emp_sep, sep_assoc] at m3
        exact hstop _ c pre _ hSp (Mod.drop (m := m3))
end Go.Sl
namespace Go.Sl
open Go
def sizeOk (P : Program) (e : TypeId) (size bytes : Nat) : Bool := match P.info? e with
  | some i => (match i.zero with | some z => decide (z.cells.size = size) | none => false) && decide (i.size = size) && decide (i.bytes = bytes) && decide (0 < size)
  | none => false
class RowN (P : Program) (t : TypeId) (e size bytes : outParam Nat) : Prop where
  ht : P.underlying t = some (.slice e)
  ok : sizeOk P e size bytes = true
theorem RowN.get {P : Program} {t e size bytes : Nat} (T : RowN P t e size bytes) : ∃ i z, P.info? e = some i ∧ i.zero = some z ∧ i.size = size ∧ i.bytes = bytes ∧ z.cells.size = size ∧ 0 < size := by
  have h := T.ok
  unfold sizeOk at h
  cases hi : P.info? e with
  | none => rw [hi] at h; cases h
  | some i =>
    rw [hi] at h
    cases hz : i.zero with
    | none => simp [hz] at h
    | some z => simp [hz] at h; exact ⟨i, z, rfl, hz, h.1.1.2, h.1.2, h.1.1.1, h.2⟩
/-- append of elements that are read onto a row of one's own, at the operation. -/
theorem wpList_append_n {P : Program} {w w0 : World} {F : Asn} {ops : Array Oper} {rest : List Oper} {o : Oper} {a : Act} {Q : Exit → Act → World → Prop} {s x : Operand} {t e size bytes : Nat} [T : RowN P t e size bytes] (hgd : o.guard = none)
    (ho : o.op = .call { callee := .builtin .append, args := #[s, x], argTypes := #[t, t] }) {v : Value} {n : Nat} {xs : List Value} (m : Mod w w0 (rowA e size v n xs * F)) (hs : a.eval s = v)
    {A : Addr} {k c : Nat} {news : List Value} (hx : a.eval x = .slice (some A) k c) (r : Reads F (some A) (k * size) news) (hk : 0 < k) (h1 : ∀ u ∈ news, u.oneCell' = true) (h63 : n + k ≤ maxLen) (hbytes : (n + k) * bytes ≤ 140737488355328)
    (h : ∀ A' c' w', Mod w' w0 (rowA e size (.slice A' (n + k) c') (n + k) (xs ++ news) * F) → wpList P ops Q rest (a.put o.dst (.slice A' (n + k) c')) w') : wpList P ops Q (o :: rest) a w :=
  wpList_plain hgd fun _ hK => by
    obtain ⟨i, z, hi, hz, hsize, hby, hzs, h0⟩ := T.get
    have rS : Reads (rowA e size v n xs * F) (some A) (k * size) news := inferInstance
    have hlen := reads_len m rS
    have hkp : 0 < k * size := Nat.mul_pos hk h0
    obtain ⟨ad, ha, hsp, hc⟩ := reads_cell m rS hkp
    injection ha with ha
    subst ha
    obtain ⟨v', w', hrun, h2, h3, h4, h5⟩ := run_append_own_at (P := P) w 0 t o.type e i z size bytes T.ht hi hz hsize hby hzs h0 v n xs (owns_of_row m) A k c news hlen
      (fun j u hu => by rw [add_off A j hsp]; exact hc j u hu) h1 h63 hbytes (Nat.zero_le _)
    have hv2 : ∃ A' c', v' = .slice A' (n + k) c' := by
      rcases h2.2 with ⟨h1, h2⟩ | ⟨g, cap, cur, h1, _⟩
      · exact ⟨none, 0, by rw [h1, h2]⟩
      · exact ⟨_, _, h1⟩
    obtain ⟨A', c', rfl⟩ := hv2
    unfold Oper.wp execOp
    simp only [ho, resolve, invoke, builtin, Sem.run_bind, Sem.run_pure, Result.andThen_ok, List.map_toArray, List.map_cons, List.map_nil, hs, hx, hrun]
    exact hK _ _ (h A' c' w' (m.rowStep h2 h3 h5))
/-- A slice literal of one element that is a struct. -/
theorem wpList_build_one {P : Program} {w : World} {ops : Array Oper} {rest : List Oper} {o : Oper} {a : Act} {Q : Exit → Act → World → Prop} {t e size bytes : Nat} [T : RowN P t e size bytes] (hgd : o.guard = none) {x : Operand} (ho : o.op = .buildSlice t 1 #[(0, x)])
    {cs : Array Value} (hx : a.eval x = .agg cs) (hs : cs.size = size) (hsmall : size ≤ 1000) (h : wpList P ops Q rest (a.put o.dst (.slice (some ⟨w.heap.size, 0, none⟩) 1 1)) (w.alloc (.cells cs e))) : wpList P ops Q (o :: rest) a w := by
  obtain ⟨i, z, hi, hz, hsize, hby, hzs, h0⟩ := T.get
  refine wpList_buildSlice hgd t e 1 #[(0, x)] ho cs i z T.ht hi hz (by rw [hsize]; omega) (by rw [hsize]; omega) ?_ h
  have := Go.Great.fill_whole h0 [.agg cs] ((Array.range (1 * i.size)).map (z.cells[· % z.cells.size]!)) (by simp [Value.cells, hs]) (by simp [hsize])
  simp only [List.zipIdx_cons, List.zipIdx_nil, List.map_cons, List.map_nil] at this
  rw [hsize] at this ⊢
  simp only [List.map_toArray, List.map_cons, List.map_nil, hx]
  rw [this]
  simp [Value.cells]
/-- .. both at one operation. -/
theorem wp_append_n {P : Program} {w w0 : World} {F : Asn} {o : Oper} {a : Act} {K : Act → World → Prop} {Q : Exit → Act → World → Prop} {s x : Operand} {t e size bytes : Nat} [T : RowN P t e size bytes]
    (ho : o.op = .call { callee := .builtin .append, args := #[s, x], argTypes := #[t, t] }) {v : Value} {n : Nat} {xs : List Value} (m : Mod w w0 (rowA e size v n xs * F)) (hs : a.eval s = v)
    {A : Addr} {k c : Nat} {news : List Value} (hx : a.eval x = .slice (some A) k c) (r : Reads F (some A) (k * size) news) (hk : 0 < k) (h1 : ∀ u ∈ news, u.oneCell' = true) (h63 : n + k ≤ maxLen) (hbytes : (n + k) * bytes ≤ 140737488355328)
    (h : ∀ A' c' w', Mod w' w0 (rowA e size (.slice A' (n + k) c') (n + k) (xs ++ news) * F) → K (a.put o.dst (.slice A' (n + k) c')) w') : o.wp P a w K Q := by
  obtain ⟨i, z, hi, hz, hsize, hby, hzs, h0⟩ := T.get
  have rS : Reads (rowA e size v n xs * F) (some A) (k * size) news := inferInstance
  have hlen := reads_len m rS
  have hkp : 0 < k * size := Nat.mul_pos hk h0
  obtain ⟨ad, ha, hsp, hc⟩ := reads_cell m rS hkp
  injection ha with ha
  subst ha
  obtain ⟨v', w', hrun, h2, h3, h4, h5⟩ := run_append_own_at (P := P) w 0 t o.type e i z size bytes T.ht hi hz hsize hby hzs h0 v n xs (owns_of_row m) A k c news hlen
    (fun j u hu => by rw [add_off A j hsp]; exact hc j u hu) h1 h63 hbytes (Nat.zero_le _)
  have hv2 : ∃ A' c', v' = .slice A' (n + k) c' := by
    rcases h2.2 with ⟨h1, h2⟩ | ⟨g, cap, cur, h1, _⟩
    · exact ⟨none, 0, by rw [h1, h2]⟩
    · exact ⟨_, _, h1⟩
  obtain ⟨A', c', rfl⟩ := hv2
  unfold Oper.wp execOp
  simp only [ho, resolve, invoke, builtin, Sem.run_bind, Sem.run_pure, Result.andThen_ok, List.map_toArray, List.map_cons, List.map_nil, hs, hx, hrun]
  exact h A' c' w' (m.rowStep h2 h3 h5)
theorem wp_build_one {P : Program} {w : World} {o : Oper} {a : Act} {K : Act → World → Prop} {Q : Exit → Act → World → Prop} {t e size bytes : Nat} [T : RowN P t e size bytes] {x : Operand} (ho : o.op = .buildSlice t 1 #[(0, x)])
    {cs : Array Value} (hx : a.eval x = .agg cs) (hs : cs.size = size) (hsmall : size ≤ 1000) (h : K (a.put o.dst (.slice (some ⟨w.heap.size, 0, none⟩) 1 1)) (w.alloc (.cells cs e))) : o.wp P a w K Q := by
  obtain ⟨i, z, hi, hz, hsize, hby, hzs, h0⟩ := T.get
  refine wp_buildSlice t e 1 #[(0, x)] ho cs i z T.ht hi hz (by rw [hsize]; omega) (by rw [hsize]; omega) ?_ h
  have := Go.Great.fill_whole h0 [.agg cs] ((Array.range (1 * i.size)).map (z.cells[· % z.cells.size]!)) (by simp [Value.cells, hs]) (by simp [hsize])
  simp only [List.zipIdx_cons, List.zipIdx_nil, List.map_cons, List.map_nil] at this
  rw [hsize] at this ⊢
  simp only [List.map_toArray, List.map_cons, List.map_nil, hx]
  rw [this]
  simp [Value.cells]
theorem reads_rown {e size n c : Nat} {A : Option Addr} {xs : List Value} (_h0 : 0 < size) : Reads (rowA e size (.slice A n c) n xs) A (n * size) xs :=
  ⟨fun h hh => hh.1, fun h hh hn => by
    rcases hh.2 with ⟨_, h0, _⟩ | ⟨g, cap, cur, hv, h1, h2, h3, h4, rfl⟩
    · subst h0; omega
    · injection hv with hv
      refine ⟨_, hv, rfl, fun j u hu => ⟨cur, e, (0, 0), by simp [Hp.one], ?_⟩⟩
      rw [← h4] at hu
      rw [List.getElem?_take] at hu
      split at hu
      · simpa using hu
      · cases hu⟩
end Go.Sl
namespace Go.Sl
open Go
/-- S is A beside R. -/
class Pull (S A : Asn) (R : outParam Asn) : Prop where
  eq : S = A * R
instance (priority := 2000) Pull.here (A B : Asn) : Pull (A * B) A B := ⟨rfl⟩
instance (priority := 1900) Pull.last (A B : Asn) : Pull (A * B) B A := ⟨sep_comm A B⟩
instance (priority := 1000) Pull.right (A B C R : Asn) [t : Pull B C R] : Pull (A * B) C (A * R) := ⟨by rw [t.eq, sep_left_comm]⟩
instance (priority := 900) Pull.left (A B C R : Asn) [t : Pull A C R] : Pull (A * B) C (R * B) := ⟨by rw [t.eq, sep_assoc]⟩
instance (priority := 3000) Pull.row (A B R1 R2 S : Asn) [t1 : Pull S A R1] [t2 : Pull R1 B R2] : Pull S (A * B) R2 := ⟨by rw [t1.eq, t2.eq, sep_assoc]⟩
theorem Mod.pull {w w0 : World} {S : Asn} (A : Asn) {R : Asn} [m : Mod w w0 S] [t : Pull S A R] : Mod w w0 (A * R) := t.eq ▸ m
theorem Mod.pull2 {w w0 : World} {S : Asn} (A B : Asn) {R1 R2 : Asn} [m : Mod w w0 S] [t1 : Pull S A R1] [t2 : Pull R1 B R2] : Mod w w0 (A * (B * R2)) := by
  rw [← t2.eq, ← t1.eq]; exact m
theorem Mod.pull3 {w w0 : World} {S : Asn} (A B C : Asn) {R1 R2 R3 : Asn} [m : Mod w w0 S] [t1 : Pull S A R1] [t2 : Pull R1 B R2] [t3 : Pull R2 C R3] : Mod w w0 (A * (B * (C * R3))) := by
  rw [← t3.eq, ← t2.eq, ← t1.eq]; exact m
theorem Mod.pull4 {w w0 : World} {S : Asn} (A B C D : Asn) {R1 R2 R3 R4 : Asn} [m : Mod w w0 S] [t1 : Pull S A R1] [t2 : Pull R1 B R2] [t3 : Pull R2 C R3] [t4 : Pull R3 D R4] : Mod w w0 (A * (B * (C * (D * R4)))) := by
  rw [← t4.eq, ← t3.eq, ← t2.eq, ← t1.eq]; exact m
theorem Mod.dropped {w w0 : World} {S : Asn} (A : Asn) {R : Asn} [m : Mod w w0 S] [t : Pull S A R] : Mod w w0 R := Mod.drop (A := A) (m := Mod.pull A)
/-- What is said of the world at a call. -/
theorem calls_mod {P : Program} {f : FuncId} {args : Array Value} {w w0 : World} {S : Asn} {Q : Ending → World → Prop} [m : Mod w w0 S] (h : Mod w w0 S → Calls P f args w Q) : Calls P f args w Q := h m
theorem wpList_mod {P : Program} {ops : Array Oper} {l : List Oper} {a : Act} {w w0 : World} {S : Asn} {Q : Exit → Act → World → Prop} [m : Mod w w0 S] (h : Mod w w0 S → wpList P ops Q l a w) : wpList P ops Q l a w := h m
instance HpSize.drewN (w : World) (n k : Nat) [h : HpSize w n] : HpSize (w.drewN k) n := ⟨h.eq⟩
theorem wp_mod {P : Program} {o : Oper} {a : Act} {w w0 : World} {S : Asn} {K : Act → World → Prop} {Q : Exit → Act → World → Prop} [m : Mod w w0 S] (h : Mod w w0 S → o.wp P a w K Q) : o.wp P a w K Q := h m
theorem calls_gen {P : Program} {f : FuncId} {args : Array Value} {w w0 : World} {S : Asn} {Q : Ending → World → Prop} [m : Mod w w0 S] (h : ∀ u, Mod u w0 S → Calls P f args u Q) : Calls P f args w Q := h w m
theorem row_none_n {w w0 : World} {F : Asn} {e size : Nat} (m : Mod w w0 F) : Mod w w0 (rowA e size (.slice none 0 0) 0 [] * F) := by
  refine Mod.conv (S := emp * F) (m := by rw [emp_sep]; exact m) fun _ h => sep_imp (A := emp) (fun y hy => ?_) h
  have hy : y = Hp.none := hy
  subst hy; exact rowA_nil _ _
theorem row_len_cap {w w0 : World} {F : Asn} {e size n c : Nat} {A : Option Addr} {xs : List Value} (m : Mod w w0 (rowA e size (.slice A n c) n xs * F)) : n ≤ c := by
  rcases (owns_of_row m).2 with ⟨h, h2⟩ | ⟨g, cap, cur, h, _, _, h1, _⟩
  · omega
  · injection h with _ _ h3; omega
end Go.Sl
namespace Go.Sl
open Go
/-- S knows one cell. -/
class CellAt (S : Asn) (g o : Nat) (v : outParam Value) : Prop where
  cell : ∀ h, S.says h → ∃ c e f, h g = some (.cells c e f) ∧ c[o]? = some v
instance CellAt.left (A B : Asn) (g o : Nat) (v : Value) [ha : CellAt A g o v] : CellAt (A * B) g o v :=
  ⟨by rintro h ⟨a, b, _, rfl, h1, _⟩; obtain ⟨c, e, f, h3, h4⟩ := ha.cell a h1; exact ⟨c, e, f, by simp [Hp.join, h3], h4⟩⟩
instance CellAt.right (A B : Asn) (g o : Nat) (v : Value) [hb : CellAt B g o v] : CellAt (A * B) g o v := by
  rw [sep_comm]; exact CellAt.left B A g o v
theorem cellAt_of {w w0 : World} {S : Asn} {g o : Nat} {v : Value} [m : Mod w w0 S] [c : CellAt S g o v] : w.cell? ⟨g, o, none⟩ = some v := by
  obtain ⟨a, b, _, hj, ha, _⟩ := m.says
  obtain ⟨c, e, f, h3, h4⟩ := c.cell a ha
  have hw : w.heap[g]? = some (.cells c e f) := by show hp w g = _; rw [hj]; simp [Hp.join, h3]
  unfold World.cell?
  simp only [hw]
  exact h4
theorem reads_at_cell {S : Asn} {bn o n : Nat} {xs : List Value} (r : Reads S (some ⟨bn, o, none⟩) n xs) (hn : 0 < n) (j : Nat) {u : Value} (hu : xs[j]? = some u) : CellAt S bn (o + j) u :=
  ⟨fun h hh => by
    obtain ⟨ad, ha, _, hc⟩ := r.cell h hh hn
    injection ha with ha
    subst ha
    exact hc j u hu⟩
end Go.Sl
