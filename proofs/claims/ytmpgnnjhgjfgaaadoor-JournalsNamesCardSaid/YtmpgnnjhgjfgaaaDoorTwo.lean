/- Disks with two files, and what a failure leaves of such: plain lemmas; and regions that draw their order and whose calls keep what is said of the heap. -/
import Derived.Test.YtmpgnnjhgjfgaaaDoorAlive5
namespace Go.Proofs.YtmpgnnjhgjfgaaaDoor
open Go.RowKit Go.Sl
/-- A disk with two files. -/
def pair (n : Nat) (a : ByteArray) (g : Nat) (f : FileSt) (b : ByteArray) (h : Nat) (f' : FileSt) (s : Dir) : DiskSt := ⟨n, [(a, g), (b, h)], s, [(h, f'), (g, f)]⟩
/-- .. whose first name was given to the second file. -/
def moved (n : Nat) (a : ByteArray) (g : Nat) (f : FileSt) (h : Nat) (f' : FileSt) (s : Dir) : DiskSt := ⟨n, [(a, h)], s, [(h, f'), (g, f)]⟩
section
variable {n : Nat} {a b : ByteArray} {g h : Nat} {f f' : FileSt} {s : Dir}
theorem fresh_one (hf : fget (one n a g f s).files h = none) : h ≠ g := fun e => by subst e; simp [one, fget] at hf
theorem created_pair (hab : a ≠ b) : created (one n a g f s) b h = pair n a g f b h ⟨[], 0⟩ s := by simp [created, one, pair, mput, hab]
theorem mget_pair1 : mget [(a, g), (b, h)] a = some g := by simp [mget]
theorem mget_pair2 (hab : a ≠ b) : mget [(a, g), (b, h)] b = some h := by simp [mget, hab]
theorem fget_pair1 (hg : h ≠ g) : fget [(h, f'), (g, f)] g = some f := by simp [fget, hg]
theorem fget_pair2 : fget [(h, f'), (g, f)] h = some f' := by simp [fget]
theorem put_pair1 (hg : h ≠ g) (f2 : FileSt) : ({ pair n a g f b h f' s with files := fset (pair n a g f b h f' s).files g f2 } : DiskSt) = pair n a g f2 b h f' s := by simp [pair, fset, hg]
theorem put_pair2 (f2 : FileSt) : ({ pair n a g f b h f' s with files := fset (pair n a g f b h f' s).files h f2 } : DiskSt) = pair n a g f b h f2 s := by simp [pair, fset]
theorem names_pair : ({ pair n a g f b h f' s with sure := (pair n a g f b h f' s).now } : DiskSt) = pair n a g f b h f' [(a, g), (b, h)] := rfl
theorem left_pair (hg : h ≠ g) : leftOf (pair n a g f b h f' s) = n - (f.bytes.length + f'.bytes.length) := by simp [leftOf, pair, total, fget, hg]
theorem renamed_pair (hab : a ≠ b) : renamed (pair n a g f b h f' s) b a h = moved n a g f h f' s := by simp [renamed, pair, moved, mdel, mput, hab]
theorem names_moved : ({ moved n a g f h f' s with sure := (moved n a g f h f' s).now } : DiskSt) = moved n a g f h f' [(a, h)] := rfl
theorem left_moved : leftOf (moved n a g f h f' s) = n - f'.bytes.length := by simp [leftOf, moved, total, fget]
theorem allOf_moved (ha : nameOk a = true) : allOf (moved n a g f h f' s) a = f'.bytes := by simp [allOf, fileAt, ha, moved, mget, fget]
theorem allOf_pair1 (ha : nameOk a = true) (hg : h ≠ g) : allOf (pair n a g f b h f' s) a = f.bytes := by simp [allOf, fileAt, ha, pair, mget, fget, hg]
theorem allOf_pair2 (hb : nameOk b = true) (hab : a ≠ b) : allOf (pair n a g f b h f' s) b = f'.bytes := by simp [allOf, fileAt, hb, pair, mget, fget, hab]
end
theorem kept_sure (keep : Nat) (l : List UInt8) : kept keep ⟨l, l.length⟩ = ⟨l, l.length⟩ := by simp [kept]
/-! ### What a failure leaves -/
theorem fget_mem : ∀ (T : FileTab) (g : Nat) (f : FileSt), (T.map (·.1)).Nodup → (g, f) ∈ T → fget T g = some f
  | [], _, _, _, h => by cases h
  | p :: l, g, f, hn, h => by
    simp only [List.map_cons, List.nodup_cons] at hn
    unfold fget
    rcases List.mem_cons.1 h with h | h
    · rw [← h, if_pos rfl]
    · rw [if_neg (fun e => hn.1 (by rw [e]; exact List.mem_map_of_mem (f := (·.1)) h))]
      exact fget_mem l g f hn.2 h
theorem mget_mem {α : Type} {L : List (ByteArray × α)} {s : ByteArray} {v : α} (hn : (L.map (·.1)).Nodup) (h : (s, v) ∈ L) : mget L s = some v := by
  induction L with
  | nil => cases h
  | cons p l ih =>
    simp only [List.map_cons, List.nodup_cons] at hn
    rcases List.mem_cons.1 h with h | h
    · rw [← h]; simp [mget]
    · have hne : p.1 ≠ s := fun e => hn.1 (by rw [e]; exact List.mem_map_of_mem (f := (·.1)) h)
      have := ih hn.2 h
      unfold mget at this ⊢
      rw [List.find?_cons_of_neg (by simpa using hne)]
      exact this
theorem made_at {M : Made} {n : Nat} (hok : DiskOk ⟨n, M.dir, M.dir, M.tab⟩) (hd : (M.map (·.2.1)).Nodup) {name : ByteArray} {f : FileSt} (h : (name, f) ∈ M.map fun q => (q.1, q.2.2)) : fileAt ⟨n, M.dir, M.dir, M.tab⟩ name = some f := by
  obtain ⟨q, hq, he⟩ := List.mem_map.1 h
  injection he with e1 e2
  subst e1; subst e2
  have hdir : (q.1, q.2.1) ∈ M.dir := List.mem_reverse.2 (List.mem_map_of_mem (f := fun q : ByteArray × Nat × FileSt => (q.1, q.2.1)) hq)
  have h1 : mget M.dir q.1 = some q.2.1 := mget_mem hok.keys hdir
  have h2 : fget M.tab q.2.1 = some q.2.2 := fget_mem _ _ _ (by unfold Made.tab; rw [List.map_map]; exact hd) (List.mem_map_of_mem (f := fun q : ByteArray × Nat × FileSt => q.2) hq)
  have hname : nameOk q.1 = true := hok.named _ hdir
  show (if nameOk q.1 then (mget M.dir q.1).bind (fget M.tab) else none) = _
  rw [if_pos hname, h1]; exact h2
theorem made_all {M : Made} {n : Nat} (hok : DiskOk ⟨n, M.dir, M.dir, M.tab⟩) (hd : (M.map (·.2.1)).Nodup) {name : ByteArray} {f : FileSt} (h : (name, f) ∈ M.map fun q => (q.1, q.2.2)) : allOf ⟨n, M.dir, M.dir, M.tab⟩ name = f.bytes := by
  unfold allOf; rw [made_at hok hd h]
theorem made_count {M : Made} {n : Nat} : (listOf ⟨n, M.dir, M.dir, M.tab⟩).length = M.length := by rw [length_listOf]; simp [Made.dir]
/-! ### A region that draws its order: all that is said of the heap stays -/
structure Held (w0 : World) (S : Asn) where
  world : World
  mod : Mod world w0 S
instance Mod.held {w0 : World} {S : Asn} (s : Held w0 S) : Mod s.world w0 S := s.mod
theorem Held.some {w w0 : World} {S : Asn} (m : Mod w w0 S) : Nonempty (Held w0 S) := ⟨⟨w, m⟩⟩
theorem wp_region_mod {P : Program} {id : Nat} {Q : Exit → Act → World → Prop} {a : Act} {w w0 : World} {S : Asn} {l : List Oper} (m : Mod w w0 S) (hm : P.follows .mixedOrders = true) (hB : Region.lexB .any l.toArray = true)
    (h : wpQuiet P l.toArray (fun w' => ∃ s : Held w0 S, w' = s.world) (fun a' => ∀ w', (∃ s : Held w0 S, w' = s.world) → Q .normal a' w') l a) : (Code.region id l.toArray true).wp P Q a w :=
  wp_region_quiet (C := fun w' => ∃ s : Held w0 S, w' = s.world) hm hB ⟨⟨w.drew, Mod.drew (m := m)⟩, rfl⟩ (by simpa using h)
theorem quiet_call {P : Program} {f : FuncId} {args : Array Value} {w w0 : World} {S : Asn} {v : Value} (h : Calls P f args w fun e w' => e = .returned v ∧ Mod w' w0 S) : Calls P f args w fun e w' => e = .returned v ∧ ∃ s : Held w0 S, w' = s.world :=
  h.mono fun _ w' ⟨he, hm⟩ => ⟨he, ⟨w', hm⟩, rfl⟩
/-- Append of a text's bytes. -/
theorem append_str (p : Nat) (D : DiskSt) (name : ByteArray) (w w0 : World) (S F : Asn) (m : Mod w w0 S) (t : Take S (diskA p) D F) (hs : name.size ≤ 9223372036854775807) (A : Option Addr) (c : Nat) (b : ByteArray) [r : Reads F A b.size (u8s b.data.toList)] (g : Nat) (f : FileSt) (hn : nameOk name = true) (hg : mget D.now name = some g) (hf : fget D.files g = some f) (h1 : b.size ≤ leftOf D) (h2 : f.bytes.length + b.size ≤ 1048576) :
    Calls Tryd.prog 19 #[.pointer (some ⟨p, 0, none⟩), .string name, .slice A b.size c] w fun e w' => e = .returned (.int .i64 0) ∧ Mod w' w0 (diskA p { D with files := fset D.files g ⟨f.bytes ++ b.data.toList, f.sure⟩ } * F) := by
  have e := size_toList b
  rw [← e] at r h1 h2 ⊢
  exact append_ok p D name w w0 S F m t hs A c b.data.toList g f hn hg hf h1 h2
theorem fail_single (p : Nat) (D : DiskSt) (w w0 : World) (S F : Asn) (m : Mod w w0 S) (t : Take S (diskA p) D F) (keep : Nat) (b : Bool) (hk : keep ≤ 9223372036854775807) (name2 : ByteArray) (g : Nat) (hl : namesLeft D b = [(name2, g)]) (f2 : FileSt) (hf : keptOf D keep g = f2) :
    Calls Tryd.prog 23 #[.pointer (some ⟨p, 0, none⟩), .int .i64 (keep : Int), .bool b] w fun e w' => ∃ p' g', e = .returned (.tuple #[ptr p', .int .i64 0]) ∧ Mod w' w0 (diskA p' (one D.size name2 g' f2 [(name2, g')]) * S) := by
  refine (fail_ok p D w w0 S F m t keep b hk).mono ?_
  rintro e w' ⟨p', M, rfl, hM, _, _, m'⟩
  rw [hl] at hM
  simp only [List.map_cons, List.map_nil, hf] at hM
  obtain ⟨g', rfl⟩ := made_one hM
  exact ⟨p', g', rfl, m'⟩
theorem keptOf_moved {n : Nat} {a : ByteArray} {g h : Nat} {f f' : FileSt} {s : Dir} (keep : Nat) : keptOf (moved n a g f h f' s) keep h = kept keep f' := by simp [keptOf, moved, fget]
theorem keptOf_moved1 {n : Nat} {a : ByteArray} {g h : Nat} {f f' : FileSt} {s : Dir} (hg : h ≠ g) (keep : Nat) : keptOf (moved n a g f h f' s) keep g = kept keep f := by simp [keptOf, moved, fget, hg]
end Go.Proofs.YtmpgnnjhgjfgaaaDoor
