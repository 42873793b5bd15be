/- The walks of the disk's inner functions there, ask and find: contracts over the small separation logic; the conditions are in each theorem.
What a disk is, in plain lists; and the disk in the small separation logic: definitions and plain lemmas.
The walks of the disk's functions Size, Sync, Left: contracts over the small separation logic; the conditions are in each theorem.
The walks of the disk's functions New, Sync, Create, Remove, Rename: contracts over the small separation logic; the conditions are in each theorem.
The walks of the disk's functions Remove, Rename, Append: contracts over the small separation logic; the conditions are in each theorem.
The walks of slices.Clone of bytes and of the disk's function Read: contracts over the small separation logic; the conditions are in each theorem.
The walks of maps.Clone of a disk's names and of the disk's function Names: contracts over the small separation logic; the conditions are in each theorem.
A map with text keys in the words of the maps' kit, and the disk's list: plain lemmas. -/
import Derived.Test.YtmhlebpchllpbaaGreatDoorProg
import Derived.Test.YtmhlebpchllpbaaGreatDoorShelf
import Derived.Test.YtmhlebpchllpbaaGreatDoorBaseG
import Derived.WalkLawsBesides
import Derived.WalkSpells
import Derived.Lib.Hide
import Derived.Deep.LoopGhost
import Derived.Laws.Externs
import Derived.Sort.KeysCollected
namespace Go.Proofs.YtmhlebpchllpbaaGreatDoor
open Go.RowKit Go.Sl
attribute [local go_sem] cell_of frozen_of
/-- The bytes that a name may have. -/
def mayBytes : List UInt8 := [97, 98, 99, 100, 101, 102, 103, 104, 105, 106, 107, 108, 109, 110, 111, 112, 113, 114, 115, 116, 117, 118, 119, 120, 121, 122, 48, 49, 50, 51, 52, 53, 54, 55, 56, 57, 45, 46]
/-- May it be a name? -/
def nameOk (s : ByteArray) : Bool := !s.toList.isEmpty && decide (s.size ≤ 16) && (⟨(Lib.trimS s.data.toList mayBytes).toArray⟩ : ByteArray).toList.isEmpty
theorem trim_spec (s : ByteArray) (w w0 : World) (S : Asn) [Mod w w0 S] (hs : s.size ≤ 9223372036854775807) :
    Calls Tryz.prog 86 #[.string s, .string ⟨#[97, 98, 99, 100, 101, 102, 103, 104, 105, 106, 107, 108, 109, 110, 111, 112, 113, 114, 115, 116, 117, 118, 119, 120, 121, 122, 48, 49, 50, 51, 52, 53, 54, 55, 56, 57, 45, 46]⟩] w
      fun e w' => e = .returned (.string ⟨(Lib.trimS s.data.toList mayBytes).toArray⟩) ∧ Mod w' w0 S := by
  have hcon := Any.strings_Trim_laid Tryz.lays160 (by kernel_rfl) s ⟨mayBytes.toArray⟩ w hs (by decide) (ascii_of_all (by decide))
  exact hcon.mono fun e w' ⟨h1, h2⟩ => ⟨h1, Mod.below h2⟩
theorem there_live (g : Nat) (size : Int) (x y : Value) (w w0 : World) (S : Asn) [Mod w w0 S] [Has S g (.cells #[.int .i64 size, x, y] 50 (0,0))] (h : 0 < size) :
    Calls Tryz.prog 39 #[.pointer (some ⟨g, 0, none⟩)] w fun e w' => e = .returned (.bool true) ∧ w = w' := by
  go_enter Tryz.func39, Tryz.ntmps39
  go_wp2
  go_ret
  exact ⟨rfl, rfl⟩
theorem all_take_succ (p : ByteArray → Bool) (l : List ByteArray) (k : Nat) (h : k < l.length) : (l.take (k + 1)).all p = ((l.take k).all p && p l[k]) := by
  rw [List.take_succ_eq_append_getElem h, List.all_append]; simp only [List.all_cons, List.all_nil, Bool.and_true]
set_option maxHeartbeats 1000000 in
theorem ask_spec (g : Nat) (size : Int) (x y : Value) (ok : Bool) (G : Nat) (cs : Array Value) (names : List ByteArray) (w w0 : World) (S : Asn) [Mod w w0 S] [Has S g (.cells #[.int .i64 size, x, y] 50 (0,0))] (hsize : 0 < size)
    [Has S G (.cells cs 9 (0, 0))] (hcs : cs = (names.map Value.string).toArray) (hn : ∀ s ∈ names, s.size ≤ 9223372036854775807) (cap : Nat) (hlen : names.length ≤ 100) (r : Int) (hr : r = if (ok && names.all nameOk) = true then 0 else 1) :
    Calls Tryz.prog 35 #[.pointer (some ⟨g, 0, none⟩), .bool ok, .slice (some ⟨G, 0, none⟩) names.length cap] w fun e w' => e = .returned (.int .i64 r) ∧ Mod w' w0 S := by
  have Hcs := Lib.hid hcs
  have Hr := Lib.hid hr
  have Hn := Lib.hid hn
  clear hcs hr hn
  go_enter Tryz.func35, Tryz.ntmps35
  go_wp2_with (go_at_call 39; refine (there_live g size x y w w0 S hsize).mono ?_; rintro e w' ⟨rfl, rfl⟩)
  go_loopw [1, 14] (fun b i wr => ∃ (k : Nat) (bb : Bool), k ≤ names.length ∧ i = .int .i64 k ∧ b = .bool bb ∧ Hid (bb = (ok && (names.take k).all nameOk)) ∧ Mod wr w0 S) (fun _ i _ => names.length - (intOf i).toNat)
  case atStart => exact ⟨0, ok, Nat.zero_le _, rfl, rfl, by simp [Hid], inferInstance⟩
  case round =>
    obtain ⟨k, bb, hk, rfl, rfl, Hb, inst⟩ := hrel
    by_cases hlt : k < names.length
    · have hck : cs[k]? = some (.string names[k]) := by rw [Hcs.out]; simp [hlt]
      have Hs : Hid (names[k].size ≤ 9223372036854775807) := Hn.out _ (List.getElem_mem hlt)
      have Hstep : Hid ((ok && (names.take (k + 1)).all nameOk) = (bb && nameOk names[k])) := by
        show _ = _
        rw [all_take_succ _ _ _ hlt, ← Bool.and_assoc, ← Hb.out]
      generalize names[k] = s at *
      have Ht := Lib.hid (trim_spec s wr w0 S Hs.out)
      have Hnm : Hid (nameOk s = (!s.toList.isEmpty && decide (s.size ≤ 16) && (⟨(Lib.trimS s.data.toList mayBytes).toArray⟩ : ByteArray).toList.isEmpty)) := rfl
      generalize (⟨(Lib.trimS s.data.toList mayBytes).toArray⟩ : ByteArray) = t at *
      cases bb
      · go_wp2_with fail
        go_roundw
        case rel => exact ⟨k + 1, false, by omega, by go_num, rfl, by rw [Hid, Hstep.out]; rfl, inst⟩
        case measure => simp [intOf]; omega
      · cases h1 : s.toList.isEmpty
        · by_cases h2 : (s.size : Int) ≤ 16
          · cases h3 : t.toList.isEmpty
            all_goals
              go_wp2_with (go_at_call 86; refine Ht.out.mono ?_; rintro e w' ⟨rfl, inst'⟩)
              go_roundw
              case rel => exact ⟨k + 1, _, by omega, by go_num, rfl, by rw [Hid, Hstep.out, Hnm.out, h1, h3]; simp <;> omega, inst'⟩
              case measure => simp [intOf]; omega
          · go_wp2_with fail
            go_roundw
            case rel => exact ⟨k + 1, false, by omega, by go_num, rfl, by rw [Hid, Hstep.out, Hnm.out]; simp; omega, inst⟩
            case measure => simp [intOf]; omega
        · go_wp2_with fail
          go_roundw
          case rel => exact ⟨k + 1, false, by omega, by go_num, rfl, by rw [Hid, Hstep.out, Hnm.out, h1]; rfl, inst⟩
          case measure => simp [intOf]; omega
    · have hkk : k = names.length := by omega
      have Hb' : Hid (bb = (ok && names.all nameOk)) := by have := Hb.out; rw [hkk, List.take_length] at this; exact this
      clear Hb hkk
      cases bb
      · go_wp2_with fail
        go_ret
        exact ⟨by rw [Hr.out, ← Hb'.out]; rfl, inst⟩
      · go_wp2_with fail
        go_ret
        exact ⟨by rw [Hr.out, ← Hb'.out]; rfl, inst⟩

instance smap_names : SMap Tryz.prog 48 := ⟨by kernel_rfl, by kernel_rfl, fun w => by kernel_rfl⟩
theorem zero_names : Tryz.prog.zeroOf (Tryz.prog.mapElem 48) = .pointer none := by kernel_rfl
attribute [local go_sem] zero_names
theorem find_arg (g rn rs : Nat) (size : Int) (ok : Bool) (name : ByteArray) (L : Pairs) (w w0 : World) (S : Asn) [Mod w w0 S] [Has S g (.cells #[.int .i64 size, .map (some rn), .map (some rs)] 50 (0,0))] [HasMap S rn L] (hsize : 0 < size) (hs : name.size ≤ 9223372036854775807) (h : (ok && nameOk name) = false) :
    Calls Tryz.prog 38 #[.pointer (some ⟨g, 0, none⟩), .bool ok, .string name] w fun e w' => e = .returned (.tuple #[.pointer none, .int .i64 1]) ∧ Mod w' w0 S := by
  have H := Lib.hid h; clear h
  go_enter Tryz.func38, Tryz.ntmps38
  go_wp2_with (go_at_call 35; refine (ask_spec g size _ _ ok w.heap.size #[.string name] [name] _ w0 _ hsize rfl (by simpa using hs) 1 (by simp) 1 (by simp [H.out])).mono ?_; rintro e w' ⟨rfl, _inst⟩)
  go_ret2
  exact ⟨rfl, Mod.sub S⟩
theorem find_none (g rn rs : Nat) (size : Int) (ok : Bool) (name : ByteArray) (L : Pairs) (w w0 : World) (S : Asn) [Mod w w0 S] [Has S g (.cells #[.int .i64 size, .map (some rn), .map (some rs)] 50 (0,0))] [HasMap S rn L] (hsize : 0 < size) (hs : name.size ≤ 9223372036854775807) (h : (ok && nameOk name) = true) (hl : mget L name = none) :
    Calls Tryz.prog 38 #[.pointer (some ⟨g, 0, none⟩), .bool ok, .string name] w fun e w' => e = .returned (.tuple #[.pointer none, .int .i64 7]) ∧ Mod w' w0 S := by
  have H := Lib.hid h; clear h
  go_enter Tryz.func38, Tryz.ntmps38
  go_wp2_with (go_at_call 35; refine (ask_spec g size _ _ ok w.heap.size #[.string name] [name] _ w0 _ hsize rfl (by simpa using hs) 1 (by simp) 0 (by simp [H.out])).mono ?_; rintro e w' ⟨rfl, _inst⟩)
  go_ret2
  exact ⟨rfl, Mod.sub S⟩
theorem find_some (g rn rs : Nat) (size : Int) (ok : Bool) (name : ByteArray) (L : Pairs) (w w0 : World) (S : Asn) [Mod w w0 S] [Has S g (.cells #[.int .i64 size, .map (some rn), .map (some rs)] 50 (0,0))] [HasMap S rn L] (v : Value) (hsize : 0 < size) (hs : name.size ≤ 9223372036854775807) (h : (ok && nameOk name) = true) (hl : mget L name = some v) :
    Calls Tryz.prog 38 #[.pointer (some ⟨g, 0, none⟩), .bool ok, .string name] w fun e w' => e = .returned (.tuple #[v, .int .i64 0]) ∧ Mod w' w0 S := by
  have H := Lib.hid h; clear h
  go_enter Tryz.func38, Tryz.ntmps38
  go_wp2_with (go_at_call 35; refine (ask_spec g size _ _ ok w.heap.size #[.string name] [name] _ w0 _ hsize rfl (by simpa using hs) 1 (by simp) 0 (by simp [H.out])).mono ?_; rintro e w' ⟨rfl, _inst⟩)
  go_ret2
  exact ⟨rfl, Mod.sub S⟩
end Go.Proofs.YtmhlebpchllpbaaGreatDoor
namespace Go.Proofs.YtmhlebpchllpbaaGreatDoor
open Go Go.Sl
/-- A file: its bytes, how many are sure. -/
structure FileSt where
  bytes : List UInt8
  sure : Nat
abbrev Dir := List (ByteArray × Nat)
abbrev FileTab := List (Nat × FileSt)
def fget : FileTab → Nat → Option FileSt
  | [], _ => none
  | p :: l, g => if p.1 = g then some p.2 else fget l g
def fset : FileTab → Nat → FileSt → FileTab
  | [], _, _ => []
  | p :: l, g, f => if p.1 = g then (g, f) :: l else p :: fset l g f
def fdel : FileTab → Nat → FileTab
  | [], _ => []
  | p :: l, g => if p.1 = g then l else p :: fdel l g
theorem fget_fset_same : ∀ (T : FileTab) (g : Nat) (f f' : FileSt), fget T g = some f → fget (fset T g f') g = some f'
  | [], _, _, _, h => by cases h
  | p :: l, g, f, f', h => by
    unfold fget at h
    unfold fset
    by_cases hp : p.1 = g
    · rw [if_pos hp]; simp [fget]
    · rw [if_neg hp] at h ⊢; simp only [fget, if_neg hp]; exact fget_fset_same l g f f' h
theorem fget_fset_other : ∀ (T : FileTab) (g k : Nat) (f' : FileSt), k ≠ g → fget (fset T g f') k = fget T k
  | [], _, _, _, _ => rfl
  | p :: l, g, k, f', h => by
    unfold fset
    by_cases hp : p.1 = g
    · rw [if_pos hp]; simp only [fget]; rw [if_neg (fun e => h e.symm), if_neg (fun e => h (by rw [← e, hp]))]
    · rw [if_neg hp]; simp only [fget]; rw [fget_fset_other l g k f' h]
theorem fget_isSome_fset (T : FileTab) (g k : Nat) (f' : FileSt) (h : (fget T k).isSome = true) : (fget (fset T g f') k).isSome = true := by
  by_cases hk : k = g
  · subst hk
    obtain ⟨f, hf⟩ := Option.isSome_iff_exists.1 h
    rw [fget_fset_same T k f f' hf]; rfl
  · rw [fget_fset_other T g k f' hk]; exact h
theorem mem_fset : ∀ (T : FileTab) (g : Nat) (f' : FileSt) (p : Nat × FileSt), p ∈ fset T g f' → p ∈ T ∨ p = (g, f')
  | [], _, _, _, h => by cases h
  | q :: l, g, f', p, h => by
    unfold fset at h
    by_cases hq : q.1 = g
    · rw [if_pos hq] at h
      rcases List.mem_cons.1 h with h | h
      · exact .inr h
      · exact .inl (List.mem_cons_of_mem _ h)
    · rw [if_neg hq] at h
      rcases List.mem_cons.1 h with h | h
      · exact .inl (by rw [h]; exact List.mem_cons_self ..)
      · rcases mem_fset l g f' p h with h | h
        · exact .inl (List.mem_cons_of_mem _ h)
        · exact .inr h
theorem mem_of_fget : ∀ (T : FileTab) (g : Nat) (f : FileSt), fget T g = some f → (g, f) ∈ T
  | [], _, _, h => by cases h
  | p :: l, g, f, h => by
    unfold fget at h
    by_cases hp : p.1 = g
    · rw [if_pos hp] at h; injection h with h; subst h; subst hp; exact List.mem_cons_self ..
    · rw [if_neg hp] at h; exact List.mem_cons_of_mem _ (mem_of_fget l g f h)
/-- A disk: its size, names as they are and as they are sure, the files by their places. -/
structure DiskSt where
  size : Nat
  now : Dir
  sure : Dir
  files : FileTab
structure DiskOk (D : DiskSt) : Prop where
  pos : 0 < D.size
  most : D.size ≤ 8388608
  many : D.now.length ≤ 64
  now : ∀ p ∈ D.now, (fget D.files p.2).isSome = true
  sure : ∀ p ∈ D.sure, (fget D.files p.2).isSome = true
  len : ∀ p ∈ D.files, p.2.bytes.length ≤ 1048576
  upto : ∀ p ∈ D.files, p.2.sure ≤ p.2.bytes.length
  keys : (D.now.map (·.1)).Nodup
  keysS : (D.sure.map (·.1)).Nodup
  inj : (D.now.map (·.2)).Nodup
  injS : (D.sure.map (·.2)).Nodup
  named : ∀ q ∈ D.now, nameOk q.1 = true
  namedS : ∀ q ∈ D.sure, nameOk q.1 = true
  manyS : D.sure.length ≤ 64
theorem fset_ok {D : DiskSt} (h : DiskOk D) {g : Nat} {f f' : FileSt} (_ : fget D.files g = some f) (h1 : f'.bytes.length ≤ 1048576) (h2 : f'.sure ≤ f'.bytes.length) : DiskOk { D with files := fset D.files g f' } :=
  ⟨h.pos, h.most, h.many, fun p hp => fget_isSome_fset _ _ _ _ (h.now p hp), fun p hp => fget_isSome_fset _ _ _ _ (h.sure p hp),
    fun p hp => (mem_fset _ _ _ _ hp).elim (fun hp => h.len p hp) (fun e => by rw [e]; exact h1), fun p hp => (mem_fset _ _ _ _ hp).elim (fun hp => h.upto p hp) (fun e => by rw [e]; exact h2), h.keys, h.keysS, h.inj, h.injS, h.named, h.namedS, h.manyS⟩
abbrev ptr (g : Nat) : Value := .pointer (some ⟨g, 0, none⟩)
def ptrs (L : Dir) : Pairs := onVals ptr L
def u8s (l : List UInt8) : List Value := l.map fun b => .int .u8 b.toNat
theorem length_u8s (l : List UInt8) : (u8s l).length = l.length := by simp [u8s]
theorem one_u8s (l : List UInt8) : ∀ u ∈ u8s l, u.oneCell' = true := by
  intro u hu
  obtain ⟨b, _, rfl⟩ := List.mem_map.1 hu
  rfl
theorem u8s_append (a b : List UInt8) : u8s (a ++ b) = u8s a ++ u8s b := by simp [u8s]
def fileA (g : Nat) (f : FileSt) : Asn := ex fun v : Value => blk g (.cells #[.int .i64 (f.sure : Int), v] 90 (0, 0)) * rowA 5 1 v f.bytes.length (u8s f.bytes)
def filesA : FileTab → Asn
  | [] => emp
  | p :: l => fileA p.1 p.2 * filesA l
theorem filesA_take : ∀ (T : FileTab) (g : Nat) (f : FileSt), fget T g = some f → filesA T = fileA g f * filesA (fdel T g)
  | [], _, _, h => by cases h
  | p :: l, g, f, h => by
    unfold fget at h
    by_cases hp : p.1 = g
    · rw [if_pos hp] at h; injection h with h; subst h; subst hp; simp [filesA, fdel]
    · rw [if_neg hp] at h
      simp only [filesA, fdel, if_neg hp]
      rw [filesA_take l g f h, sep_left_comm]
theorem filesA_put : ∀ (T : FileTab) (g : Nat) (f f' : FileSt), fget T g = some f → filesA (fset T g f') = fileA g f' * filesA (fdel T g)
  | [], _, _, _, h => by cases h
  | p :: l, g, f, f', h => by
    unfold fget at h
    by_cases hp : p.1 = g
    · simp [filesA, fdel, fset, hp]
    · rw [if_neg hp] at h
      simp only [filesA, fdel, fset, if_neg hp]
      rw [filesA_put l g f f' h, sep_left_comm]
theorem filesA_append : ∀ (T U : FileTab), filesA (T ++ U) = filesA T * filesA U
  | [], U => (emp_sep _).symm
  | p :: l, U => by simp only [List.cons_append, filesA]; rw [filesA_append l U, sep_assoc]
instance Take.files (T : FileTab) : Take (filesA T) filesA T emp := ⟨(sep_emp _).symm⟩
instance Take.file (g : Nat) (f : FileSt) : Take (fileA g f) (fileA g) f emp := ⟨(sep_emp _).symm⟩
/-- A row by its value: what it is known by in a search. -/
def rowQ (e : TypeId) (size : Nat) (v : Value) (q : Nat × List Value) : Asn := rowA e size v q.1 q.2
instance Take.row (e : TypeId) (size : Nat) (v : Value) (n : Nat) (xs : List Value) : Take (rowA e size v n xs) (rowQ e size v) (n, xs) emp := ⟨(sep_emp _).symm⟩
/-- The disk at block p. -/
def diskA (p : Nat) (D : DiskSt) : Asn :=
  ex fun r : Nat × Nat => pur (DiskOk D) * (blk p (.cells #[.int .i64 (D.size : Int), .map (some r.1), .map (some r.2)] 50 (0, 0)) * (smap r.1 (ptrs D.now) * (smap r.2 (ptrs D.sure) * filesA D.files)))
instance Take.disk (p : Nat) (D : DiskSt) : Take (diskA p D) (diskA p) D emp := ⟨(sep_emp _).symm⟩
/-- The disk's parts, laid open, with what is beside it. -/
def diskO (p rn rs : Nat) (D : DiskSt) (F : Asn) : Asn :=
  blk p (.cells #[.int .i64 (D.size : Int), .map (some rn), .map (some rs)] 50 (0, 0)) * (smap rn (ptrs D.now) * (smap rs (ptrs D.sure) * (filesA D.files * F)))
section
variable {w w0 : World} {S F : Asn} {p rn rs : Nat} {D : DiskSt}
theorem disk_open (m : Mod w w0 S) (t : Take S (diskA p) D F) : ∃ rn rs, DiskOk D ∧ Mod w w0 (blk p (.cells #[.int .i64 (D.size : Int), .map (some rn), .map (some rs)] 50 (0, 0)) * (smap rn (ptrs D.now) * (smap rs (ptrs D.sure) * (filesA D.files * F)))) := by
  have m1 : Mod w w0 (diskA p D * F) := by rw [← t.eq]; exact m
  obtain ⟨⟨rn, rs⟩, m2⟩ := Mod.open (w := w) (w0 := w0) (m := m1)
  rw [sep_assoc] at m2
  obtain ⟨h, m3⟩ := Mod.openP (w := w) (w0 := w0) (m := m2)
  exact ⟨rn, rs, h, by simpa only [sep_assoc] using m3⟩
/-- One file laid open. -/
theorem file_open {g : Nat} {f : FileSt} {T : FileTab} (m : Mod w w0 S) (t : Take S filesA T F) (h : fget T g = some f) :
    ∃ A c, Mod w w0 (blk g (.cells #[.int .i64 (f.sure : Int), .slice A f.bytes.length c] 90 (0, 0)) * (rowA 5 1 (.slice A f.bytes.length c) f.bytes.length (u8s f.bytes) * (filesA (fdel T g) * F))) := by
  have m1 : Mod w w0 (filesA T * F) := by rw [← t.eq]; exact m
  rw [filesA_take T g f h, sep_assoc] at m1
  obtain ⟨v, m2⟩ := Mod.open (w := w) (w0 := w0) (m := m1)
  rw [sep_assoc] at m2
  have hv : ∃ A c, v = .slice A f.bytes.length c := by
    have m3 : Mod w w0 (rowA 5 1 v f.bytes.length (u8s f.bytes) * (blk g (.cells #[.int .i64 (f.sure : Int), v] 90 (0, 0)) * (filesA (fdel T g) * F))) := by rw [sep_left_comm]; exact m2
    rcases (owns_of_row m3).2 with ⟨h1, h2⟩ | ⟨g, cap, cur, h1, _⟩
    · exact ⟨none, 0, by rw [h1, h2]⟩
    · exact ⟨_, _, h1⟩
  obtain ⟨A, c, rfl⟩ := hv
  exact ⟨A, c, m2⟩
/-- .. and shut again, whatever has become of it. -/
theorem file_shut {g : Nat} {sz : Int} {v : Value} {n : Nat} {xs : List Value} {S2 S3 S4 : Asn} {T' : FileTab} (m : Mod w w0 S) [t1 : Take S (blk g) (.cells #[.int .i64 sz, v] 90 (0, 0)) S2] [t2 : Take S2 (rowQ 5 1 v) (n, xs) S3] [t3 : Take S3 filesA T' S4]
    {T : FileTab} {f : FileSt} (hf : fget T g = some f) (hT : T' = fdel T g) (f' : FileSt) (h1 : sz = (f'.sure : Int)) (h2 : n = f'.bytes.length) (h3 : xs = u8s f'.bytes) : Mod w w0 (filesA (fset T g f') * S4) := by
  subst h1 h2 h3 hT
  rw [filesA_put T g f f' hf, sep_assoc]
  have e : S = blk g (.cells #[.int .i64 (f'.sure : Int), v] 90 (0, 0)) * (rowA 5 1 v f'.bytes.length (u8s f'.bytes) * (filesA (fdel T g) * S4)) := by
    rw [t1.eq, t2.eq, t3.eq]; rfl
  rw [e, ← sep_assoc] at m
  exact Mod.shut v (m := m)
theorem disk_shut {S1 S2 S3 S4 S5 : Asn} {sz : Int} {Ln Ls : Pairs} {T : FileTab} (m : Mod w w0 S1) [t1 : Take S1 (blk p) (.cells #[.int .i64 sz, .map (some rn), .map (some rs)] 50 (0, 0)) S2] [t2 : Take S2 (smap rn) Ln S3] [t3 : Take S3 (smap rs) Ls S4] [t4 : Take S4 filesA T S5] [s : Sub S5 F]
    (D : DiskSt) (hok : DiskOk D) (h1 : sz = (D.size : Int)) (h2 : Ln = ptrs D.now) (h3 : Ls = ptrs D.sure) (h4 : T = D.files) : Mod w w0 (diskA p D * F) := by
  subst h1 h2 h3 h4
  have e : S1 = blk p (.cells #[.int .i64 (D.size : Int), .map (some rn), .map (some rs)] 50 (0, 0)) * (smap rn (ptrs D.now) * (smap rs (ptrs D.sure) * filesA D.files)) * S5 := by
    rw [t1.eq, t2.eq, t3.eq, t4.eq]; simp only [sep_assoc]
  have m1 : Mod w w0 (pur (DiskOk D) * (blk p (.cells #[.int .i64 (D.size : Int), .map (some rn), .map (some rs)] 50 (0, 0)) * (smap rn (ptrs D.now) * (smap rs (ptrs D.sure) * filesA D.files))) * S5) := by
    rw [sep_assoc, ← e]; exact Mod.shutP hok (m := m)
  have m2 : Mod w w0 (diskA p D * S5) := Mod.shut (G := fun r : Nat × Nat => pur (DiskOk D) * (blk p (.cells #[.int .i64 (D.size : Int), .map (some r.1), .map (some r.2)] 50 (0, 0)) * (smap r.1 (ptrs D.now) * (smap r.2 (ptrs D.sure) * filesA D.files)))) (rn, rs) (m := m1)
  refine ⟨m2.os, m2.tape, m2.output, ?_⟩
  have h := m2.says
  rw [sep_assoc] at h ⊢
  obtain ⟨a, b, h1, h2, h3, h4⟩ := h
  exact ⟨a, b, h1, h2, h3, s.sub _ h4⟩
/-- A file of the table lies in the heap. -/
theorem files_lt : ∀ (T : FileTab) (g : Nat) (f : FileSt) (h : Hp), (filesA T).says h → fget T g = some f → (h g).isSome = true := by
  intro T g f h hs hf
  rw [filesA_take T g f hf] at hs
  obtain ⟨a, b, _, rfl, ⟨v, c, d, _, rfl, hc, _⟩, _⟩ := hs
  have hc : c = Hp.one g (.cells #[.int .i64 (f.sure : Int), v] 90 (0, 0)) := hc
  simp [Hp.join, hc, Hp.one]
theorem fresh_file {T : FileTab} (m : Mod w w0 S) (t : Take S filesA T F) : fget T w.heap.size = none := by
  cases h : fget T w.heap.size with
  | none => rfl
  | some f =>
    have hs := m.says
    rw [t.eq, sep_assoc] at hs
    obtain ⟨a, b, _, h2, ha, _⟩ := hs
    have h3 := files_lt T _ f a ha h
    obtain ⟨o, ho⟩ := Option.isSome_iff_exists.1 h3
    have : hp w w.heap.size = some o := by rw [h2]; simp [Hp.join, ho]
    simp [hp] at this
end
/-- A new name, with a new and empty file at place g. -/
def created (D : DiskSt) (name : ByteArray) (g : Nat) : DiskSt := { D with now := mput D.now name g, files := (g, ⟨[], 0⟩) :: D.files }
theorem mput_new {α : Type} {L : List (ByteArray × α)} {s : ByteArray} (h : mget L s = none) (v : α) : mput L s v = L ++ [(s, v)] := by
  unfold mput
  rw [if_neg]
  intro e
  obtain ⟨q, hq, hqs⟩ := List.any_eq_true.1 e
  unfold mget at h
  have h0 : L.find? (fun p => decide (p.1 = s)) = none := by cases hf : L.find? (fun p => decide (p.1 = s)) with | none => rfl | some x => rw [hf] at h; cases h
  exact List.find?_eq_none.1 h0 q hq hqs
theorem not_mget {α : Type} {L : List (ByteArray × α)} {s : ByteArray} (h : mget L s = none) (q : ByteArray × α) (hq : q ∈ L) : q.1 ≠ s := fun e => by
  unfold mget at h
  have h0 : L.find? (fun p => decide (p.1 = s)) = none := by cases hf : L.find? (fun p => decide (p.1 = s)) with | none => rfl | some x => rw [hf] at h; cases h
  exact List.find?_eq_none.1 h0 q hq (by simp [e])
theorem created_ok {D : DiskSt} (h : DiskOk D) {name : ByteArray} {g : Nat} (hn : nameOk name = true) (hg : mget D.now name = none) (hroom : D.now.length < 64) (hfr : fget D.files g = none) : DiskOk (created D name g) := by
  have hkeep : ∀ k, (fget D.files k).isSome = true → (fget ((g, (⟨[], 0⟩ : FileSt)) :: D.files) k).isSome = true := fun k hk => by
    simp only [fget]
    split
    · rfl
    · exact hk
  have hput : mput D.now name g = D.now ++ [(name, g)] := mput_new hg g
  refine ⟨h.pos, h.most, by show (mput D.now name g).length ≤ 64; rw [hput]; simp; omega, fun q hq => ?_, fun q hq => hkeep _ (h.sure q hq), fun q hq => ?_, fun q hq => ?_, ?_, h.keysS, ?_, h.injS, fun q hq => ?_, h.namedS, h.manyS⟩
  · have hq : q ∈ mput D.now name g := hq
    rw [hput, List.mem_append, List.mem_singleton] at hq
    rcases hq with hq | rfl
    · exact hkeep _ (h.now q hq)
    · simp [created, fget]
  · rcases List.mem_cons.1 hq with rfl | hq
    · simp
    · exact h.len q hq
  · rcases List.mem_cons.1 hq with rfl | hq
    · simp
    · exact h.upto q hq
  · show ((mput D.now name g).map (·.1)).Nodup
    rw [hput, List.map_append, List.nodup_append]
    refine ⟨h.keys, by simp, fun a ha b hb e => ?_⟩
    simp only [List.map_cons, List.map_nil, List.mem_singleton] at hb
    subst hb
    rw [← e] at hg
    obtain ⟨q, hq, hqa⟩ := List.mem_map.1 ha
    exact not_mget hg q hq hqa
  · show ((mput D.now name g).map (·.2)).Nodup
    rw [hput, List.map_append, List.nodup_append]
    refine ⟨h.inj, by simp, fun a ha b hb e => ?_⟩
    simp only [List.map_cons, List.map_nil, List.mem_singleton] at hb
    subst hb
    obtain ⟨q, hq, hqa⟩ := List.mem_map.1 ha
    have := h.now q hq
    rw [hqa, e, hfr] at this
    cases this
  · have hq : q ∈ mput D.now name g := hq
    rw [hput, List.mem_append, List.mem_singleton] at hq
    rcases hq with hq | rfl
    · exact h.named q hq
    · exact hn
theorem sub_ok {D : DiskSt} (h : DiskOk D) {L : Dir} (hs : L.Sublist D.now) : DiskOk { D with now := L } :=
  ⟨h.pos, h.most, Nat.le_trans hs.length_le h.many, fun p hp => h.now p (hs.subset hp), h.sure, h.len, h.upto, h.keys.sublist (hs.map _), h.keysS, h.inj.sublist (hs.map _), h.injS, fun q hq => h.named q (hs.subset hq), h.namedS, h.manyS⟩
theorem mdel_sub {α : Type} (L : List (ByteArray × α)) (s : ByteArray) : (mdel L s).Sublist L := List.filter_sublist
theorem removed_ok {D : DiskSt} (h : DiskOk D) (name : ByteArray) : DiskOk { D with now := mdel D.now name } := sub_ok h (mdel_sub _ _)
theorem names_ok {D : DiskSt} (h : DiskOk D) : DiskOk { D with sure := D.now } := ⟨h.pos, h.most, h.many, h.now, h.now, h.len, h.upto, h.keys, h.keys, h.inj, h.inj, h.named, h.named, h.many⟩
theorem mem_of_mget {α : Type} {L : List (ByteArray × α)} {s : ByteArray} {v : α} (h : mget L s = some v) : (s, v) ∈ L := by
  unfold mget at h
  cases hf : L.find? (fun p => decide (p.1 = s)) with
  | none => rw [hf] at h; cases h
  | some x =>
    rw [hf] at h
    injection h with h
    have h1 := List.mem_of_find?_eq_some hf
    have h2 := List.find?_some hf
    rw [← h, ← of_decide_eq_true h2]; exact h1
theorem mput_ids {L : Dir} {s : ByteArray} {g : Nat} (hk : (L.map (·.1)).Nodup) (hi : (L.map (·.2)).Nodup) (hg : g ∉ L.map (·.2)) : ((mput L s g).map (·.1)).Nodup ∧ ((mput L s g).map (·.2)).Nodup := by
  unfold mput
  split
  · constructor
    · have e : (L.map fun p => if p.1 = s then (p.1, g) else p).map (·.1) = L.map (·.1) := by
        rw [List.map_map]; apply List.map_congr_left; intro p _; simp only [Function.comp]; split <;> rfl
      rw [e]; exact hk
    · rename_i hany
      clear hany
      induction L with
      | nil => simp
      | cons p l ih =>
        simp only [List.map_cons, List.nodup_cons, List.mem_cons, not_or] at hk hi hg
        have ih := ih hk.2 hi.2 hg.2
        simp only [List.map_cons, List.nodup_cons]
        refine ⟨?_, ih⟩
        by_cases hp : p.1 = s
        · rw [if_pos hp]
          intro hm
          rw [List.map_map] at hm
          obtain ⟨q, hq, hqe⟩ := List.mem_map.1 hm
          simp only [Function.comp] at hqe
          have hqs : q.1 ≠ s := fun e => hk.1 (by rw [hp, ← e]; exact List.mem_map_of_mem hq)
          rw [if_neg hqs] at hqe
          exact hg.2 (by rw [← hqe]; exact List.mem_map_of_mem hq)
        · rw [if_neg hp]
          intro hm
          rw [List.map_map] at hm
          obtain ⟨q, hq, hqe⟩ := List.mem_map.1 hm
          simp only [Function.comp] at hqe
          split at hqe
          · exact hg.1 hqe
          · exact hi.1 (by rw [← hqe]; exact List.mem_map_of_mem hq)
  · rename_i hany
    have hno : ∀ p ∈ L, p.1 ≠ s := fun p hp e => hany (List.any_eq_true.2 ⟨p, hp, by simp [e]⟩)
    rw [List.map_append, List.map_append, List.nodup_append, List.nodup_append]
    refine ⟨⟨hk, by simp, fun a ha b hb e => ?_⟩, hi, by simp, fun a ha b hb e => ?_⟩
    · simp only [List.map_cons, List.map_nil, List.mem_singleton] at hb
      obtain ⟨q, hq, hqa⟩ := List.mem_map.1 ha
      exact hno q hq (by rw [hqa, e, hb])
    · simp only [List.map_cons, List.map_nil, List.mem_singleton] at hb
      exact hg (by rw [← hb, ← e]; exact ha)
theorem mput_length_le {α : Type} (L : List (ByteArray × α)) (s : ByteArray) (v : α) : (mput L s v).length ≤ L.length + 1 := by
  unfold mput; split <;> simp
theorem mem_mput {α : Type} {L : List (ByteArray × α)} {s : ByteArray} {v : α} {q : ByteArray × α} (h : q ∈ mput L s v) : q ∈ L ∨ q = (s, v) := by
  unfold mput at h
  split at h
  · obtain ⟨p, hp, rfl⟩ := List.mem_map.1 h
    by_cases hs : p.1 = s
    · rw [if_pos hs]; exact .inr (by rw [hs])
    · rw [if_neg hs]; exact .inl hp
  · rcases List.mem_append.1 h with h | h
    · exact .inl h
    · exact .inr (List.mem_singleton.1 h)
theorem mdel_length_lt {α : Type} {L : List (ByteArray × α)} {s : ByteArray} {v : α} (h : mget L s = some v) : (mdel L s).length < L.length := by
  have := mem_of_mget h
  unfold mdel
  refine List.length_filter_lt_length_iff_exists.2 ⟨(s, v), this, by simp⟩
/-- The file at from has the name to. -/
def renamed (D : DiskSt) (from_ to : ByteArray) (g : Nat) : DiskSt := { D with now := mput (mdel D.now from_) to g }
theorem renamed_ok {D : DiskSt} (h : DiskOk D) {a b : ByteArray} {g : Nat} (hn : nameOk b = true) (hg : mget D.now a = some g) : DiskOk (renamed D a b g) := by
  have h1 := removed_ok h a
  have hnot : g ∉ (mdel D.now a).map (·.2) := by
    intro hm
    obtain ⟨q, hq, hqg⟩ := List.mem_map.1 hm
    have hqL : q ∈ D.now := (mdel_sub _ _).subset hq
    have hqa : q.1 ≠ a := by
      have := (List.mem_filter.1 hq).2
      simpa using this
    have hag := mem_of_mget hg
    -- two entries with one file
    obtain ⟨i, hi, hie⟩ := List.mem_iff_getElem.1 hqL
    obtain ⟨j, hj, hje⟩ := List.mem_iff_getElem.1 hag
    have hij : i = j := by
      have := List.getElem_inj (xs := D.now.map (·.2)) (h₀ := by simpa using hi) (h₁ := by simpa using hj) h.inj
      simp only [List.getElem_map, hie, hje] at this
      exact this.1 hqg
    subst hij
    rw [hie] at hje
    exact hqa (by rw [hje])
  obtain ⟨k1, k2⟩ := mput_ids (s := b) h1.keys h1.inj hnot
  have hlt := mdel_length_lt hg
  have hmany := h.many
  refine ⟨h.pos, h.most, by show (mput (mdel D.now a) b g).length ≤ 64; have := mput_length_le (mdel D.now a) b g; omega, fun q hq => ?_, h.sure, h.len, h.upto, k1, h.keysS, k2, h.injS, fun q hq => ?_, h.namedS, h.manyS⟩
  · rcases mem_mput hq with hq | rfl
    · exact h1.now q hq
    · exact h.now (a, g) (mem_of_mget hg)
  · rcases mem_mput hq with hq | rfl
    · exact h1.named q hq
    · exact hn
theorem file_new {w w0 : World} {S F S2 : Asn} {T : FileTab} {g : Nat} (m : Mod w w0 S) [t1 : Take S (blk g) (.cells #[.int .i64 0, .slice none 0 0] 90 (0, 0)) F] [t2 : Take F filesA T S2] : Mod w w0 (filesA ((g, ⟨[], 0⟩) :: T) * S2) := by
  have e : S = blk g (.cells #[.int .i64 0, .slice none 0 0] 90 (0, 0)) * (filesA T * S2) := by rw [t1.eq, t2.eq]
  rw [e] at m
  have m1 : Mod w w0 (fileA g ⟨[], 0⟩ * (filesA T * S2)) := by
    have : Mod w w0 ((blk g (.cells #[.int .i64 0, .slice none 0 0] 90 (0, 0)) * rowA 5 1 (.slice none 0 0) 0 []) * (filesA T * S2)) := by
      refine Mod.conv (S := blk g (.cells #[.int .i64 0, .slice none 0 0] 90 (0, 0)) * (filesA T * S2)) (m := m) fun x hx => sep_imp (fun y hy => ?_) hx
      exact ⟨y, Hp.none, fun k => .inr rfl, by funext k; simp [Hp.join, Hp.none], hy, rowA_nil _ _⟩
    exact Mod.shut (G := fun v : Value => blk g (.cells #[.int .i64 0, v] 90 (0, 0)) * rowA 5 1 v 0 []) (.slice none 0 0) (m := this)
  rw [← sep_assoc] at m1
  exact m1
end Go.Proofs.YtmhlebpchllpbaaGreatDoor
namespace Go.Proofs.YtmhlebpchllpbaaGreatDoor
open Go.RowKit Go.Sl
attribute [local go_sem] cell_of frozen_of zero_names
theorem ret_int {k : IntKind} {a b : Int} (h : a = b) : Ending.returned (.int k a) = .returned (.int k b) := by rw [h]
theorem fset_same : ∀ (T : FileTab) (g : Nat) (f : FileSt), fget T g = some f → fset T g f = T
  | [], _, _, h => by cases h
  | p :: l, g, f, h => by
    unfold fget at h
    unfold fset
    by_cases hp : p.1 = g
    · rw [if_pos hp] at h ⊢; injection h with h; rw [← h, ← hp]
    · rw [if_neg hp] at h ⊢; rw [fset_same l g f h]
theorem back {w w0 : World} {S F : Asn} {p : Nat} {D : DiskSt} (t : Take S (diskA p) D F) (m : Mod w w0 (diskA p D * F)) : Mod w w0 S := by rw [t.eq]; exact m
theorem mget_ptrs {L : Dir} {s : ByteArray} {g : Nat} (h : mget L s = some g) : mget (ptrs L) s = some (ptr g) := by rw [ptrs, mget_onVals, h]; rfl
theorem mget_ptrs_none {L : Dir} {s : ByteArray} (h : mget L s = none) : mget (ptrs L) s = none := by rw [ptrs, mget_onVals, h]; rfl
/-- The contracts' common premises, and the parts. -/
theorem fset_back {w w0 : World} {S F : Asn} {p rn rs : Nat} {D : DiskSt} {S1 S2 S3 S4 S5 : Asn} {T : FileTab} (t : Take S (diskA p) D F) (m : Mod w w0 S1) [t1 : Take S1 (blk p) (.cells #[.int .i64 (D.size : Int), .map (some rn), .map (some rs)] 50 (0, 0)) S2] [t2 : Take S2 (smap rn) (ptrs D.now) S3] [t3 : Take S3 (smap rs) (ptrs D.sure) S4] [t4 : Take S4 filesA T S5] [s : Sub S5 F]
    (hok : DiskOk D) (h4 : T = D.files) : Mod w w0 S := back t (disk_shut m D hok rfl rfl rfl h4)
set_option maxHeartbeats 1000000 in
theorem size_some (p : Nat) (D : DiskSt) (name : ByteArray) (g : Nat) (f : FileSt) (w w0 : World) (S F : Asn) (m : Mod w w0 S) (t : Take S (diskA p) D F) (hs : name.size ≤ 9223372036854775807)
    (hn : nameOk name = true) (hg : mget D.now name = some g) (hf : fget D.files g = some f) :
    Calls Tryz.prog 13 #[.pointer (some ⟨p, 0, none⟩), .string name] w fun e w' => e = .returned (.tuple #[.int .i64 (f.bytes.length : Int), .int .i64 0]) ∧ Mod w' w0 S := by
  obtain ⟨rn, rs, hok, m1⟩ := disk_open m t
  obtain ⟨B, c, m2⟩ := file_open m1 inferInstance hf
  clear m m1
  have Hl := Lib.hid (mget_ptrs hg)
  have Hn := Lib.hid hn
  have Hf := Lib.hid hf
  have hpos : (0 : Int) < D.size := by have := hok.pos; omega
  clear hg hn hf
  go_enter Tryz.func13, Tryz.ntmps13
  go_wp2_with (go_at_call 38; refine (find_some p rn rs D.size true name (ptrs D.now) _ w0 _ (ptr g) hpos hs Hn.out Hl.out).mono ?_; rintro e w' ⟨rfl, _inst⟩)
  go_ret2
  have m3 := file_shut _inst Hf.out rfl f rfl rfl rfl
  exact ⟨rfl, back t (disk_shut m3 D hok rfl rfl rfl (fset_same _ _ _ Hf.out))⟩
set_option maxHeartbeats 1000000 in
theorem size_none (p : Nat) (D : DiskSt) (name : ByteArray) (w w0 : World) (S F : Asn) (m : Mod w w0 S) (t : Take S (diskA p) D F) (hs : name.size ≤ 9223372036854775807)
    (hn : nameOk name = true) (hg : mget D.now name = none) :
    Calls Tryz.prog 13 #[.pointer (some ⟨p, 0, none⟩), .string name] w fun e w' => e = .returned (.tuple #[.int .i64 0, .int .i64 7]) ∧ Mod w' w0 S := by
  obtain ⟨rn, rs, hok, m1⟩ := disk_open m t
  clear m
  have Hl := Lib.hid (mget_ptrs_none hg)
  have Hn := Lib.hid hn
  have hpos : (0 : Int) < D.size := by have := hok.pos; omega
  clear hg hn
  go_enter Tryz.func13, Tryz.ntmps13
  go_wp2_with (go_at_call 38; refine (find_none p rn rs D.size true name (ptrs D.now) _ w0 _ hpos hs Hn.out Hl.out).mono ?_; rintro e w' ⟨rfl, _inst⟩)
  go_ret2
  exact ⟨rfl, fset_back t _inst hok rfl⟩
set_option maxHeartbeats 1000000 in
theorem size_arg (p : Nat) (D : DiskSt) (name : ByteArray) (w w0 : World) (S F : Asn) (m : Mod w w0 S) (t : Take S (diskA p) D F) (hs : name.size ≤ 9223372036854775807) (hn : nameOk name = false) :
    Calls Tryz.prog 13 #[.pointer (some ⟨p, 0, none⟩), .string name] w fun e w' => e = .returned (.tuple #[.int .i64 0, .int .i64 1]) ∧ Mod w' w0 S := by
  obtain ⟨rn, rs, hok, m1⟩ := disk_open m t
  clear m
  have Hn := Lib.hid hn
  have hpos : (0 : Int) < D.size := by have := hok.pos; omega
  clear hn
  go_enter Tryz.func13, Tryz.ntmps13
  go_wp2_with (go_at_call 38; refine (find_arg p rn rs D.size true name (ptrs D.now) _ w0 _ hpos hs Hn.out).mono ?_; rintro e w' ⟨rfl, _inst⟩)
  go_ret2
  exact ⟨rfl, fset_back t _inst hok rfl⟩
/-- How many bytes the names' files have. -/
def total (T : FileTab) : Dir → Nat
  | [] => 0
  | q :: L => ((fget T q.2).map (·.bytes.length)).getD 0 + total T L
def leftOf (D : DiskSt) : Nat := D.size - total D.files D.now
theorem total_erase (T : FileTab) : ∀ (L : Dir) (i : Nat) (h : i < L.length), total T L = ((fget T L[i].2).map (·.bytes.length)).getD 0 + total T (L.eraseIdx i)
  | [], i, h => by simp at h
  | q :: L, 0, _ => rfl
  | q :: L, i + 1, h => by
    have h' : i < L.length := by simpa using h
    simp only [total, List.getElem_cons_succ, List.eraseIdx_cons_succ]
    rw [total_erase T L i h']; omega
theorem total_le {D : DiskSt} (hok : DiskOk D) : ∀ (L : Dir), total D.files L ≤ L.length * 1048576
  | [] => by simp [total]
  | q :: L => by
    have ih := total_le hok L
    simp only [total, List.length_cons]
    have : ((fget D.files q.2).map (·.bytes.length)).getD 0 ≤ 1048576 := by
      cases h : fget D.files q.2 with
      | none => simp
      | some f => have := hok.len _ (mem_of_fget _ _ _ h); simpa using this
    omega
set_option maxHeartbeats 2000000 in
theorem left_spec (p : Nat) (D : DiskSt) (w w0 : World) (S F : Asn) (m : Mod w w0 S) (t : Take S (diskA p) D F) :
    Calls Tryz.prog 91 #[.pointer (some ⟨p, 0, none⟩)] w fun e w' => e = .returned (.int .i64 (leftOf D : Int)) ∧ Mod w' w0 S := by
  obtain ⟨rn, rs, hok, m1⟩ := disk_open m t
  clear m
  have hpos : (0 : Int) < D.size := by have := hok.pos; omega
  go_enter Tryz.func91, Tryz.ntmps91
  go_wp2_with (go_at_call 39; refine (there_live p D.size _ _ _ w0 _ hpos).mono ?_; rintro e w' ⟨rfl, rfl⟩)
  go_loopg [3] D.now.length (fun gk n wr => ∃ (left : Dir) (cur : Option (ByteArray × Value)), Hid (gk = left.length) ∧ n = .int .i64 ((D.size : Int) - total D.files D.now + total D.files left) ∧ Hid (∀ q ∈ left, (fget D.files q.2).isSome = true) ∧ left.length ≤ 64 ∧
    Mod wr w0 (iterA w.heap.size rn (ptrs D.now) (ptrs left) cur * (blk p (.cells #[.int .i64 (D.size : Int), .map (some rn), .map (some rs)] 50 (0, 0)) * (smap rs (ptrs D.sure) * (filesA D.files * F)))))
  case atStart => exact ⟨D.now, none, rfl, by congr 1; omega, hok.now, hok.many, Mod.to (S := iterA w.heap.size rn (ptrs D.now) (ptrs D.now) none * (blk p (.cells #[.int .i64 (D.size : Int), .map (some rn), .map (some rs)] 50 (0, 0)) * (emp * (smap rs (ptrs D.sure) * (filesA D.files * F))))) (by rw [emp_sep])⟩
  case round =>
    obtain ⟨left, cur, Hk, rfl, Hin, h64, m2⟩ := hrel
    have ht1 := total_le hok D.now
    have ht2 := total_le hok left
    have hmany := hok.many
    have hmost := hok.most
    go_wp2_with (refine wpList_next_smap rfl (.tmp 17) rfl rfl m2 ?_ ?_)
    · intro hl w' m3
      have hl0 : left = [] := by simpa [ptrs, onVals] using hl
      subst hl0
      clear m2 Hk Hin
      have m4 := iter_end m3
      clear m3
      by_cases hv : (0 : Int) ≤ D.size - total D.files D.now + total D.files []
      · go_wp2
        go_ret
        refine ⟨ret_int ?_, fset_back t m4 hok rfl⟩
        unfold leftOf
        simp only [total] at hv ⊢
        first | omega | (split <;> omega)
      · go_wp2
        go_ret
        refine ⟨ret_int ?_, fset_back t m4 hok rfl⟩
        unfold leftOf
        simp only [total] at hv ⊢
        first | omega | (split <;> omega)
    · intro i hi w' m3
      have hi' : i < left.length := by simpa [ptrs, onVals] using hi
      have e1 : (ptrs left)[i] = (left[i].1, ptr left[i].2) := by simp [ptrs, onVals]
      have e2 : (ptrs left).eraseIdx i = ptrs (left.eraseIdx i) := by simp [ptrs, onVals, map_eraseIdx']
      rw [e1, e2] at m3
      rw [e1]
      obtain ⟨f, hf⟩ := Option.isSome_iff_exists.1 (Hin.out left[i] (List.getElem_mem hi'))
      obtain ⟨B, c, m4⟩ := file_open m3 inferInstance hf
      have htot : total D.files left = f.bytes.length + total D.files (left.eraseIdx i) := by
        have := total_erase D.files left i hi'
        rw [hf] at this; simpa using this
      have hflen := hok.len _ (mem_of_fget _ _ _ hf)
      have hflen' : f.bytes.length ≤ 1048576 := hflen
      clear m2 m3 hflen
      have Hf := Lib.hid hf
      have Ht := Lib.hid htot
      have hle : f.bytes.length ≤ total D.files left := by omega
      clear hf htot e1 e2 hi
      generalize left[i].2 = g at *
      generalize left[i].1 = nm at *
      go_wp2
      go_roundg (left.eraseIdx i).length
      case measure => rw [Hk.out, List.length_eraseIdx_of_lt hi']; omega
      case rel =>
        refine ⟨left.eraseIdx i, some (nm, ptr g), rfl, ?_, ?_, ?_, ?_⟩
        · congr 1; have := Ht.out; omega
        · intro q hq; exact Hin.out q ((List.eraseIdx_sublist _ _).subset hq)
        · rw [List.length_eraseIdx_of_lt hi']; omega
        · have m5 := file_shut m4 Hf.out rfl f rfl rfl rfl
          rw [fset_same _ _ _ Hf.out] at m5
          exact Mod.to (m := m5) (by simp only [emp_sep]; ac_rfl)
end Go.Proofs.YtmhlebpchllpbaaGreatDoor
namespace Go.Proofs.YtmhlebpchllpbaaGreatDoor
open Go.RowKit Go.Sl
attribute [local go_sem] cell_of frozen_of zero_names
theorem new_arg (n : Int) (w w0 : World) (S : Asn) (m : Mod w w0 S) (hn : n < 1 ∨ 8388608 < n) :
    Calls Tryz.prog 6 #[.int .i64 n] w fun e w' => e = .returned (.tuple #[.pointer none, .int .i64 1]) ∧ Mod w' w0 S := by
  rcases hn with hn | hn
  · go_enter Tryz.func6, Tryz.ntmps6
    go_wp2
    go_ret2
    exact ⟨rfl, m⟩
  · have h1 : ¬ n < 1 := by omega
    go_enter Tryz.func6, Tryz.ntmps6
    go_wp2
    go_ret2
    exact ⟨rfl, m⟩
def newDisk (n : Nat) : DiskSt := ⟨n, [], [], []⟩
theorem newDisk_ok (n : Nat) (h1 : 1 ≤ n) (h2 : n ≤ 8388608) : DiskOk (newDisk n) :=
  ⟨h1, h2, by simp [newDisk], by simp [newDisk], by simp [newDisk], by simp [newDisk], by simp [newDisk], by simp [newDisk], by simp [newDisk], by simp [newDisk], by simp [newDisk], by simp [newDisk], by simp [newDisk], by simp [newDisk]⟩
theorem new_ok (n : Nat) (w w0 : World) (S : Asn) (m : Mod w w0 S) (h1 : 1 ≤ n) (h2 : n ≤ 8388608) :
    Calls Tryz.prog 6 #[.int .i64 (n : Int)] w fun e w' => ∃ p, e = .returned (.tuple #[ptr p, .int .i64 0]) ∧ Mod w' w0 (diskA p (newDisk n) * S) := by
  go_enter Tryz.func6, Tryz.ntmps6
  go_wp2
  go_ret2
  have m1 : Mod w w0 (emp * S) := by rw [emp_sep]; exact m
  clear m
  have m2 : Mod w w0 (filesA [] * S) := m1
  clear m1
  refine ⟨_, rfl, ?_⟩
  exact disk_shut inferInstance (newDisk n) (newDisk_ok n h1 h2) rfl rfl rfl rfl
section
variable (p : Nat) (D : DiskSt) (name : ByteArray) (w w0 : World) (S F : Asn) (m : Mod w w0 S) (t : Take S (diskA p) D F) (hs : name.size ≤ 9223372036854775807)
include m t hs
set_option maxHeartbeats 1000000 in
theorem sync_some (g : Nat) (f : FileSt) (hn : nameOk name = true) (hg : mget D.now name = some g) (hf : fget D.files g = some f) :
    Calls Tryz.prog 52 #[.pointer (some ⟨p, 0, none⟩), .string name] w fun e w' => e = .returned (.int .i64 0) ∧ Mod w' w0 (diskA p { D with files := fset D.files g ⟨f.bytes, f.bytes.length⟩ } * F) := by
  obtain ⟨rn, rs, hok, m1⟩ := disk_open m t
  obtain ⟨B, c, m2⟩ := file_open m1 inferInstance hf
  clear m m1
  have Hl := Lib.hid (mget_ptrs hg)
  have Hn := Lib.hid hn
  have Hf := Lib.hid hf
  have hpos : (0 : Int) < D.size := by have := hok.pos; omega
  clear hg hn hf
  go_enter Tryz.func52, Tryz.ntmps52
  go_wp2_with (go_at_call 38; refine (find_some p rn rs D.size true name (ptrs D.now) _ w0 _ (ptr g) hpos hs Hn.out Hl.out).mono ?_; rintro e w' ⟨rfl, _inst⟩)
  go_ret
  refine ⟨rfl, ?_⟩
  have m3 := file_shut (w := w'.setCell ⟨g, 0, none⟩ (.int .i64 (f.bytes.length : Int))) inferInstance Hf.out rfl ⟨f.bytes, f.bytes.length⟩ rfl rfl rfl
  exact disk_shut m3 _ (fset_ok hok Hf.out (hok.len _ (mem_of_fget _ _ _ Hf.out)) (Nat.le_refl _)) rfl rfl rfl rfl
set_option maxHeartbeats 1000000 in
theorem sync_none (hn : nameOk name = true) (hg : mget D.now name = none) :
    Calls Tryz.prog 52 #[.pointer (some ⟨p, 0, none⟩), .string name] w fun e w' => e = .returned (.int .i64 7) ∧ Mod w' w0 S := by
  obtain ⟨rn, rs, hok, m1⟩ := disk_open m t
  clear m
  have Hn := Lib.hid hn
  have hpos : (0 : Int) < D.size := by have := hok.pos; omega
  clear hn
  have Hl := Lib.hid (mget_ptrs_none hg)
  clear hg
  go_enter Tryz.func52, Tryz.ntmps52
  go_wp2_with (go_at_call 38; refine (find_none p rn rs D.size true name (ptrs D.now) _ w0 _ hpos hs Hn.out Hl.out).mono ?_; rintro e w' ⟨rfl, _inst⟩)
  go_ret
  exact ⟨rfl, fset_back t _inst hok rfl⟩
set_option maxHeartbeats 1000000 in
theorem sync_arg (hn : nameOk name = false) :
    Calls Tryz.prog 52 #[.pointer (some ⟨p, 0, none⟩), .string name] w fun e w' => e = .returned (.int .i64 1) ∧ Mod w' w0 S := by
  obtain ⟨rn, rs, hok, m1⟩ := disk_open m t
  clear m
  have Hn := Lib.hid hn
  have hpos : (0 : Int) < D.size := by have := hok.pos; omega
  clear hn
  go_enter Tryz.func52, Tryz.ntmps52
  go_wp2_with (go_at_call 38; refine (find_arg p rn rs D.size true name (ptrs D.now) _ w0 _ hpos hs Hn.out).mono ?_; rintro e w' ⟨rfl, _inst⟩)
  go_ret
  exact ⟨rfl, fset_back t _inst hok rfl⟩
set_option maxHeartbeats 1000000 in
theorem remove_none (hn : nameOk name = true) (hg : mget D.now name = none) :
    Calls Tryz.prog 45 #[.pointer (some ⟨p, 0, none⟩), .string name] w fun e w' => e = .returned (.int .i64 7) ∧ Mod w' w0 S := by
  obtain ⟨rn, rs, hok, m1⟩ := disk_open m t
  clear m
  have Hn := Lib.hid hn
  have hpos : (0 : Int) < D.size := by have := hok.pos; omega
  clear hn
  have Hl := Lib.hid (mget_ptrs_none hg)
  clear hg
  go_enter Tryz.func45, Tryz.ntmps45
  go_wp2_with (go_at_call 38; refine (find_none p rn rs D.size true name (ptrs D.now) _ w0 _ hpos hs Hn.out Hl.out).mono ?_; rintro e w' ⟨rfl, _inst⟩)
  go_ret
  exact ⟨rfl, fset_back t _inst hok rfl⟩
set_option maxHeartbeats 1000000 in
theorem remove_arg (hn : nameOk name = false) :
    Calls Tryz.prog 45 #[.pointer (some ⟨p, 0, none⟩), .string name] w fun e w' => e = .returned (.int .i64 1) ∧ Mod w' w0 S := by
  obtain ⟨rn, rs, hok, m1⟩ := disk_open m t
  clear m
  have Hn := Lib.hid hn
  have hpos : (0 : Int) < D.size := by have := hok.pos; omega
  clear hn
  go_enter Tryz.func45, Tryz.ntmps45
  go_wp2_with (go_at_call 38; refine (find_arg p rn rs D.size true name (ptrs D.now) _ w0 _ hpos hs Hn.out).mono ?_; rintro e w' ⟨rfl, _inst⟩)
  go_ret
  exact ⟨rfl, fset_back t _inst hok rfl⟩
set_option maxHeartbeats 1000000 in
theorem create_arg (hn : nameOk name = false) :
    Calls Tryz.prog 48 #[.pointer (some ⟨p, 0, none⟩), .string name] w fun e w' => e = .returned (.int .i64 1) ∧ Mod w' w0 S := by
  obtain ⟨rn, rs, hok, m1⟩ := disk_open m t
  clear m
  have Hn := Lib.hid hn
  have hpos : (0 : Int) < D.size := by have := hok.pos; omega
  clear hn
  go_enter Tryz.func48, Tryz.ntmps48
  go_wp2_with (go_at_call 38; refine (find_arg p rn rs D.size true name (ptrs D.now) _ w0 _ hpos hs Hn.out).mono ?_; rintro e w' ⟨rfl, _inst⟩)
  go_ret
  exact ⟨rfl, fset_back t _inst hok rfl⟩
set_option maxHeartbeats 1000000 in
theorem create_there (g : Nat) (hn : nameOk name = true) (hg : mget D.now name = some g) :
    Calls Tryz.prog 48 #[.pointer (some ⟨p, 0, none⟩), .string name] w fun e w' => e = .returned (.int .i64 8) ∧ Mod w' w0 S := by
  obtain ⟨rn, rs, hok, m1⟩ := disk_open m t
  clear m
  have Hn := Lib.hid hn
  have hpos : (0 : Int) < D.size := by have := hok.pos; omega
  have Hl := Lib.hid (mget_ptrs hg)
  clear hn hg
  go_enter Tryz.func48, Tryz.ntmps48
  go_wp2_with (go_at_call 38; refine (find_some p rn rs D.size true name (ptrs D.now) _ w0 _ (ptr g) hpos hs Hn.out Hl.out).mono ?_; rintro e w' ⟨rfl, _inst⟩)
  go_ret
  exact ⟨rfl, fset_back t _inst hok rfl⟩
set_option maxHeartbeats 1000000 in
theorem create_full (hn : nameOk name = true) (hg : mget D.now name = none) (hfull : D.now.length = 64) :
    Calls Tryz.prog 48 #[.pointer (some ⟨p, 0, none⟩), .string name] w fun e w' => e = .returned (.int .i64 6) ∧ Mod w' w0 S := by
  obtain ⟨rn, rs, hok, m1⟩ := disk_open m t
  clear m
  have Hn := Lib.hid hn
  have hpos : (0 : Int) < D.size := by have := hok.pos; omega
  have Hl := Lib.hid (mget_ptrs_none hg)
  have hlen : (ptrs D.now).length ≤ 64 ∧ 64 ≤ (ptrs D.now).length := by rw [ptrs, length_onVals]; omega
  obtain ⟨hlen1, hlen2⟩ := hlen
  clear hn hg hfull
  go_enter Tryz.func48, Tryz.ntmps48
  go_wp2_with (go_at_call 38; refine (find_none p rn rs D.size true name (ptrs D.now) _ w0 _ hpos hs Hn.out Hl.out).mono ?_; rintro e w' ⟨rfl, _inst⟩)
  go_ret
  exact ⟨rfl, fset_back t _inst hok rfl⟩
set_option maxHeartbeats 1000000 in
theorem create_ok (hn : nameOk name = true) (hg : mget D.now name = none) (hroom : D.now.length < 64) :
    Calls Tryz.prog 48 #[.pointer (some ⟨p, 0, none⟩), .string name] w fun e w' => ∃ g, e = .returned (.int .i64 0) ∧ fget D.files g = none ∧ Mod w' w0 (diskA p (created D name g) * F) := by
  obtain ⟨rn, rs, hok, m1⟩ := disk_open m t
  clear m
  have Hn := Lib.hid hn
  have Hg := Lib.hid hg
  have hpos : (0 : Int) < D.size := by have := hok.pos; omega
  have Hl := Lib.hid (mget_ptrs_none hg)
  have hlen : (ptrs D.now).length < 64 := by rw [ptrs, length_onVals]; exact hroom
  clear hn hg
  go_enter Tryz.func48, Tryz.ntmps48
  go_wp2_with (go_at_call 38; refine (find_none p rn rs D.size true name (ptrs D.now) _ w0 _ hpos hs Hn.out Hl.out).mono ?_; rintro e w' ⟨rfl, _inst⟩)
  go_ret
  have hfr := fresh_file _inst (inferInstance : Take _ filesA D.files _)
  refine ⟨w'.heap.size, rfl, hfr, ?_⟩
  exact disk_shut (file_new (g := w'.heap.size) (T := D.files) inferInstance) (created D name w'.heap.size) (created_ok hok Hn.out Hg.out hroom hfr) rfl (mput_onVals ptr D.now name w'.heap.size) rfl rfl
end
end Go.Proofs.YtmhlebpchllpbaaGreatDoor
namespace Go.Proofs.YtmhlebpchllpbaaGreatDoor
open Go.RowKit Go.Sl
attribute [local go_sem] cell_of frozen_of zero_names
instance rowT_bytes : RowT Tryz.prog 63 5 1 := ⟨by kernel_rfl, by kernel_rfl⟩
section
variable (p : Nat) (D : DiskSt) (name : ByteArray) (w w0 : World) (S F : Asn) (m : Mod w w0 S) (t : Take S (diskA p) D F) (hs : name.size ≤ 9223372036854775807)
include m t hs
set_option maxHeartbeats 1000000 in
theorem remove_ok (g : Nat) (hn : nameOk name = true) (hg : mget D.now name = some g) :
    Calls Tryz.prog 45 #[.pointer (some ⟨p, 0, none⟩), .string name] w fun e w' => e = .returned (.int .i64 0) ∧ Mod w' w0 (diskA p { D with now := mdel D.now name } * F) := by
  obtain ⟨rn, rs, hok, m1⟩ := disk_open m t
  clear m
  have Hn := Lib.hid hn
  have hpos : (0 : Int) < D.size := by have := hok.pos; omega
  have Hl := Lib.hid (mget_ptrs hg)
  clear hn hg
  go_enter Tryz.func45, Tryz.ntmps45
  go_wp2_with (go_at_call 38; refine (find_some p rn rs D.size true name (ptrs D.now) _ w0 _ (ptr g) hpos hs Hn.out Hl.out).mono ?_; rintro e w' ⟨rfl, _inst⟩)
  go_ret
  refine ⟨rfl, ?_⟩
  exact disk_shut (w := w'.mapDel rn name) inferInstance { D with now := mdel D.now name } (removed_ok hok name) rfl (mdel_onVals ptr D.now name) rfl rfl
section
variable (to : ByteArray) (hs2 : to.size ≤ 9223372036854775807)
include hs2
set_option maxHeartbeats 1000000 in
theorem rename_arg (hn : (nameOk name && nameOk to) = false) :
    Calls Tryz.prog 54 #[.pointer (some ⟨p, 0, none⟩), .string name, .string to] w fun e w' => e = .returned (.int .i64 1) ∧ Mod w' w0 S := by
  obtain ⟨rn, rs, hok, m1⟩ := disk_open m t
  clear m
  have Hn := Lib.hid hn
  have hpos : (0 : Int) < D.size := by have := hok.pos; omega
  clear hn
  go_enter Tryz.func54, Tryz.ntmps54
  go_wp2_with (go_at_call 35; refine (ask_spec p D.size _ _ true w.heap.size #[.string name, .string to] [name, to] _ w0 _ hpos rfl (by simp [hs, hs2]) 2 (by simp) 1 (by simp [Hn.out])).mono ?_; rintro e w' ⟨rfl, _inst⟩)
  go_ret
  exact ⟨rfl, fset_back t _inst hok rfl⟩
set_option maxHeartbeats 1000000 in
theorem rename_none (hn : (nameOk name && nameOk to) = true) (hg : mget D.now name = none) :
    Calls Tryz.prog 54 #[.pointer (some ⟨p, 0, none⟩), .string name, .string to] w fun e w' => e = .returned (.int .i64 7) ∧ Mod w' w0 S := by
  obtain ⟨rn, rs, hok, m1⟩ := disk_open m t
  clear m
  have Hn := Lib.hid hn
  have Hn1 : Hid ((true && nameOk name) = true) := by show _ = _; simp at hn; simp [hn]
  have hpos : (0 : Int) < D.size := by have := hok.pos; omega
  have Hl := Lib.hid (mget_ptrs_none hg)
  clear hn hg
  go_enter Tryz.func54, Tryz.ntmps54
  go_wp2_with first
    | (go_at_call 35; refine (ask_spec p D.size _ _ true w.heap.size #[.string name, .string to] [name, to] _ w0 _ hpos rfl (by simp [hs, hs2]) 2 (by simp) 0 (by simp [Hn.out])).mono ?_; rintro e w' ⟨rfl, _inst⟩)
    | (go_at_call 38; refine (find_none p rn rs D.size true name (ptrs D.now) _ w0 _ hpos hs Hn1.out Hl.out).mono ?_; rintro e w' ⟨rfl, _inst⟩)
  go_ret
  exact ⟨rfl, fset_back t _inst hok rfl⟩
set_option maxHeartbeats 1000000 in
theorem rename_ok (g : Nat) (hn : (nameOk name && nameOk to) = true) (hg : mget D.now name = some g) :
    Calls Tryz.prog 54 #[.pointer (some ⟨p, 0, none⟩), .string name, .string to] w fun e w' => e = .returned (.int .i64 0) ∧ Mod w' w0 (diskA p (renamed D name to g) * F) := by
  obtain ⟨rn, rs, hok, m1⟩ := disk_open m t
  clear m
  have Hn := Lib.hid hn
  have Hn1 : Hid ((true && nameOk name) = true) := by show _ = _; simp at hn; simp [hn]
  have hpos : (0 : Int) < D.size := by have := hok.pos; omega
  have Hl := Lib.hid (mget_ptrs hg)
  have Hg := Lib.hid hg
  clear hn hg
  go_enter Tryz.func54, Tryz.ntmps54
  go_wp2_with first
    | (go_at_call 35; refine (ask_spec p D.size _ _ true w.heap.size #[.string name, .string to] [name, to] _ w0 _ hpos rfl (by simp [hs, hs2]) 2 (by simp) 0 (by simp [Hn.out])).mono ?_; rintro e w' ⟨rfl, _inst⟩)
    | (go_at_call 38; refine (find_some p rn rs D.size true name (ptrs D.now) _ w0 _ (ptr g) hpos hs Hn1.out Hl.out).mono ?_; rintro e w' ⟨rfl, _inst⟩)
  go_ret
  refine ⟨rfl, ?_⟩
  exact disk_shut (w := (w'.mapDel rn name).mapPut rn to (ptr g)) inferInstance (renamed D name to g) (renamed_ok hok (by have := Hn.out; simp at this; exact this.2) Hg.out) rfl (by show mput (mdel (onVals ptr D.now) name) to (ptr g) = _; rw [mdel_onVals, mput_onVals]; rfl) rfl rfl
end
set_option maxHeartbeats 1000000 in
theorem append_arg (A : Option Addr) (k c : Nat) (hn : nameOk name = false) :
    Calls Tryz.prog 50 #[.pointer (some ⟨p, 0, none⟩), .string name, .slice A k c] w fun e w' => e = .returned (.int .i64 1) ∧ Mod w' w0 S := by
  obtain ⟨rn, rs, hok, m1⟩ := disk_open m t
  clear m
  have Hn := Lib.hid hn
  have hpos : (0 : Int) < D.size := by have := hok.pos; omega
  clear hn
  go_enter Tryz.func50, Tryz.ntmps50
  go_wp2_with (go_at_call 38; refine (find_arg p rn rs D.size true name (ptrs D.now) _ w0 _ hpos hs Hn.out).mono ?_; rintro e w' ⟨rfl, _inst⟩)
  go_ret
  exact ⟨rfl, fset_back t _inst hok rfl⟩
set_option maxHeartbeats 1000000 in
theorem append_none (A : Option Addr) (k c : Nat) (hn : nameOk name = true) (hg : mget D.now name = none) :
    Calls Tryz.prog 50 #[.pointer (some ⟨p, 0, none⟩), .string name, .slice A k c] w fun e w' => e = .returned (.int .i64 7) ∧ Mod w' w0 S := by
  obtain ⟨rn, rs, hok, m1⟩ := disk_open m t
  clear m
  have Hn := Lib.hid hn
  have hpos : (0 : Int) < D.size := by have := hok.pos; omega
  have Hl := Lib.hid (mget_ptrs_none hg)
  clear hn hg
  go_enter Tryz.func50, Tryz.ntmps50
  go_wp2_with (go_at_call 38; refine (find_none p rn rs D.size true name (ptrs D.now) _ w0 _ hpos hs Hn.out Hl.out).mono ?_; rintro e w' ⟨rfl, _inst⟩)
  go_ret
  exact ⟨rfl, fset_back t _inst hok rfl⟩
set_option maxHeartbeats 1000000 in
theorem append_full (A : Option Addr) (k c : Nat) (g : Nat) (f : FileSt) (hn : nameOk name = true) (hg : mget D.now name = some g) (hf : fget D.files g = some f) (_hk : k ≤ 9223372036854775807) (h : leftOf D < k ∨ 1048576 < f.bytes.length + k) :
    Calls Tryz.prog 50 #[.pointer (some ⟨p, 0, none⟩), .string name, .slice A k c] w fun e w' => e = .returned (.int .i64 6) ∧ Mod w' w0 S := by
  obtain ⟨rn, rs, hok, m1⟩ := disk_open m t
  clear m
  have Hn := Lib.hid hn
  have hpos : (0 : Int) < D.size := by have := hok.pos; omega
  have hleft : (leftOf D : Int) ≤ 8388608 := by have := hok.most; unfold leftOf; omega
  have hfl : f.bytes.length ≤ 1048576 := hok.len _ (mem_of_fget _ _ _ hf)
  have Hl := Lib.hid (mget_ptrs hg)
  have Hf := Lib.hid hf
  clear hn hg hf
  by_cases hle : leftOf D < k
  · go_enter Tryz.func50, Tryz.ntmps50
    go_wp2_with first
      | (go_at_call 38; refine (find_some p rn rs D.size true name (ptrs D.now) _ w0 _ (ptr g) hpos hs Hn.out Hl.out).mono ?_; rintro e w' ⟨rfl, _inst⟩)
      | (go_at_call 91; refine (left_spec p D _ w0 S F (fset_back t _inst hok rfl) t).mono ?_; rintro e w'' ⟨rfl, _inst2⟩)
    go_ret
    exact ⟨rfl, _inst2⟩
  · have h2 : 1048576 < f.bytes.length + k := h.resolve_left hle
    clear h
    go_enter Tryz.func50, Tryz.ntmps50
    go_wp2_with first
      | (go_at_call 38; refine (find_some p rn rs D.size true name (ptrs D.now) _ w0 _ (ptr g) hpos hs Hn.out Hl.out).mono ?_; rintro e w' ⟨rfl, _inst⟩)
      | (go_at_call 91; refine (left_spec p D _ w0 S F (fset_back t _inst hok rfl) t).mono ?_; rintro e w'' ⟨rfl, _inst2⟩; obtain ⟨rn2, rs2, _, _m1⟩ := disk_open _inst2 t; obtain ⟨B, cB, _m2⟩ := file_open _m1 inferInstance Hf.out; clear _m1)
    go_ret
    exact ⟨rfl, _inst2⟩
set_option maxHeartbeats 1000000 in
theorem append_ok (A : Option Addr) (c : Nat) (b : List UInt8) [r : Reads F A b.length (u8s b)] (g : Nat) (f : FileSt) (hn : nameOk name = true) (hg : mget D.now name = some g) (hf : fget D.files g = some f) (h1 : b.length ≤ leftOf D) (h2 : f.bytes.length + b.length ≤ 1048576) :
    Calls Tryz.prog 50 #[.pointer (some ⟨p, 0, none⟩), .string name, .slice A b.length c] w fun e w' => e = .returned (.int .i64 0) ∧ Mod w' w0 (diskA p { D with files := fset D.files g ⟨f.bytes ++ b, f.sure⟩ } * F) := by
  obtain ⟨rn, rs, hok, m1⟩ := disk_open m t
  clear m
  have Hn := Lib.hid hn
  have hpos : (0 : Int) < D.size := by have := hok.pos; omega
  have Hl := Lib.hid (mget_ptrs hg)
  have Hf := Lib.hid hf
  clear hn hg hf
  go_enter Tryz.func50, Tryz.ntmps50
  have hleft : (leftOf D : Int) ≤ 8388608 := by have := hok.most; unfold leftOf; omega
  go_wp2_with first
      | (at_builtin; (refine wpList_append (v := .slice B f.bytes.length cB) (A := A) (k := b.length) (c := c) rfl rfl _m2 rfl rfl (one_u8s _) (by unfold maxLen; omega) (by omega) ?_); intro A' c' w3 _m3)
      | (go_at_call 38; refine (find_some p rn rs D.size true name (ptrs D.now) _ w0 _ (ptr g) hpos hs Hn.out Hl.out).mono ?_; rintro e w' ⟨rfl, _inst⟩)
      | (go_at_call 91; refine (left_spec p D _ w0 S F (fset_back t _inst hok rfl) t).mono ?_; rintro e w'' ⟨rfl, _inst2⟩; obtain ⟨rn2, rs2, _, _m1⟩ := disk_open _inst2 t; obtain ⟨B, cB, _m2⟩ := file_open _m1 inferInstance Hf.out; clear _m1 _inst2)
  go_ret
  refine ⟨rfl, ?_⟩
  have m4 := file_shut (w := w3.setCell ⟨g, 1, none⟩ (.slice A' (f.bytes.length + b.length) c')) inferInstance Hf.out rfl ⟨f.bytes ++ b, f.sure⟩ rfl (by simp) (u8s_append _ _).symm
  exact disk_shut m4 _ (fset_ok hok Hf.out (by simpa using h2) (by have := hok.upto _ (mem_of_fget _ _ _ Hf.out); simp only [List.length_append]; exact Nat.le_trans this (Nat.le_add_right _ _))) rfl rfl rfl rfl
end
end Go.Proofs.YtmhlebpchllpbaaGreatDoor
namespace Go.Proofs.YtmhlebpchllpbaaGreatDoor
open Go.RowKit Go.Sl
attribute [local go_sem] cell_of frozen_of zero_names
theorem eql_nil_bytes (w : World) (a : Option Addr) (n c n' c' : Nat) : (binOp .eql 63 (.slice a n c) (.slice none n' c')).run Tryz.prog w = .ok (.bool a.isNone) w := Lib.run_eql_slice_nil w 63 5 a n c n' c' (by kernel_rfl)
attribute [local go_sem] eql_nil_bytes
theorem row_made {w w0 : World} {S : Asn} {g : Nat} {e : TypeId} (m : Mod w w0 (blk g (.cells #[] e (0, 0)) * S)) : Mod w w0 (rowA e 1 (.slice (some ⟨g, 0, none⟩) 0 0) 0 [] * S) :=
  Mod.conv (S := blk g (.cells #[] e (0, 0)) * S) fun _ h => sep_imp (A := blk g (.cells #[] e (0, 0))) (A' := rowA e 1 (.slice (some ⟨g, 0, none⟩) 0 0) 0 []) (fun _ hy => ⟨rfl, .inr ⟨g, 0, #[], rfl, Nat.le_refl _, Nat.zero_le _, rfl, rfl, hy⟩⟩) h
set_option maxHeartbeats 1000000 in
theorem clone_bytes (A : Option Addr) (k c : Nat) (xs : List Value) (w w0 : World) (S : Asn) (m : Mod w w0 S) (r : Reads S A k xs) (h1 : ∀ u ∈ xs, u.oneCell' = true) (hk : k ≤ 140737488355328) :
    Calls Tryz.prog 36 #[.slice A k c] w fun e w' => ∃ A' c', e = .returned (.slice A' k c') ∧ Mod w' w0 (rowA 5 1 (.slice A' k c') k xs * S) := by
  have hlen := reads_len m r
  cases A with
  | none =>
    have hk0 : k = 0 := by
      rcases Nat.eq_zero_or_pos k with h | h
      · exact h
      · obtain ⟨ad, ha, _⟩ := reads_cell m r h; cases ha
    subst hk0
    have hxs : xs = [] := List.eq_nil_of_length_eq_zero hlen
    subst hxs
    go_enter Tryz.func36, Tryz.ntmps36
    go_wp2
    go_ret
    refine ⟨none, 0, rfl, Mod.conv (S := emp * S) (m := by rw [emp_sep]; exact m) fun _ h => sep_imp (A := emp) (fun y hy => ?_) h⟩
    have hy : y = Hp.none := hy
    subst hy; exact rowA_nil _ _
  | some ad =>
    go_enter Tryz.func36, Tryz.ntmps36
    go_wp2_with (at_builtin; (refine wpList_append (v := .slice (some ⟨w.heap.size, 0, none⟩) 0 0) (A := some ad) (k := k) (c := c) rfl rfl (row_made inferInstance) rfl rfl h1 (by unfold maxLen; omega) (by omega) ?_); intro A' c' w3 _m3)
    go_ret
    simp only [Nat.zero_add, List.nil_append, emp_sep] at _m3 ⊢
    exact ⟨A', c', rfl, _m3⟩
theorem row_cap {w w0 : World} {S F : Asn} {e : TypeId} {A : Option Addr} {n n' c : Nat} {xs : List Value} (m : Mod w w0 S) [t : Take S (rowQ e 1 (.slice A n c)) (n', xs) F] : n' ≤ c := by
  have m1 : Mod w w0 (rowA e 1 (.slice A n c) n' xs * F) := by have h := t.eq; rw [h] at m; exact m
  rcases (owns_of_row m1).2 with ⟨h1, h2⟩ | ⟨g, cap, cur, h1, _, _, h2, _⟩
  · omega
  · injection h1 with _ _ h; omega
theorem disk_shut_eq {w w0 : World} {F : Asn} {p rn rs : Nat} {S1 S2 S3 S4 S5 : Asn} {sz : Int} {Ln Ls : Pairs} {T : FileTab} (m : Mod w w0 S1) [t1 : Take S1 (blk p) (.cells #[.int .i64 sz, .map (some rn), .map (some rs)] 50 (0, 0)) S2] [t2 : Take S2 (smap rn) Ln S3] [t3 : Take S3 (smap rs) Ls S4] [t4 : Take S4 filesA T S5]
    (D : DiskSt) (hok : DiskOk D) (h1 : sz = (D.size : Int)) (h2 : Ln = ptrs D.now) (h3 : Ls = ptrs D.sure) (h4 : T = D.files) (h5 : S5 = F) : Mod w w0 (diskA p D * F) := by
  subst h5; exact disk_shut m D hok h1 h2 h3 h4
theorem u8s_part (l : List UInt8) (i k : Nat) : ((u8s l).drop i).take k = u8s ((l.drop i).take k) := by simp [u8s, List.map_drop, List.map_take]
theorem none_take {S : Asn} (B : Option Addr) (i n : Nat) (l : List UInt8) (h : n = 0) : Reads S B n (u8s ((l.drop i).take n)) := by subst h; simp only [List.take_zero]; exact Reads.none_of B
theorem clone_part (B : Option Addr) (i n c len : Nat) (l : List UInt8) (w w0 : World) (S : Asn) (m : Mod w w0 S) [r : Reads S B len (u8s l)] (h : i + n ≤ len) (hk : len ≤ 1048576) :
    Calls Tryz.prog 36 #[.slice (Option.map (fun x => x.add i) B) n c] w fun e w' => ∃ A' c', e = .returned (.slice A' n c') ∧ Mod w' w0 (rowA 5 1 (.slice A' n c') n (u8s ((l.drop i).take n)) * S) := by
  have r2 := Reads.part r i n h
  rw [u8s_part] at r2
  exact clone_bytes _ n c _ w w0 S m r2 (one_u8s _) (by omega)
section
variable (p : Nat) (D : DiskSt) (name : ByteArray) (w w0 : World) (S F : Asn) (m : Mod w w0 S) (t : Take S (diskA p) D F) (hs : name.size ≤ 9223372036854775807)
include m t hs
set_option maxHeartbeats 1000000 in
theorem read_arg (i n : Int) (hn : ((decide (0 ≤ i) && decide (0 ≤ n)) && nameOk name) = false) :
    Calls Tryz.prog 20 #[.pointer (some ⟨p, 0, none⟩), .string name, .int .i64 i, .int .i64 n] w fun e w' => e = .returned (.tuple #[.slice none 0 0, .int .i64 1]) ∧ Mod w' w0 S := by
  obtain ⟨rn, rs, hok, m1⟩ := disk_open m t
  clear m
  have Hn := Lib.hid hn
  clear hn
  have hpos : (0 : Int) < D.size := by have := hok.pos; omega
  go_enter Tryz.func20, Tryz.ntmps20
  go_wp2_with (go_at_call 38; refine (find_arg p rn rs D.size _ name (ptrs D.now) _ w0 _ hpos hs (by have h := Hn.out; revert h; cases nameOk name <;> simp <;> omega)).mono ?_; rintro e w' ⟨rfl, _inst⟩)
  all_goals go_ret2
  all_goals exact ⟨rfl, fset_back t _inst hok rfl⟩
set_option maxHeartbeats 1000000 in
theorem read_none (i n : Nat) (hn : nameOk name = true) (hg : mget D.now name = none) :
    Calls Tryz.prog 20 #[.pointer (some ⟨p, 0, none⟩), .string name, .int .i64 (i : Int), .int .i64 (n : Int)] w fun e w' => e = .returned (.tuple #[.slice none 0 0, .int .i64 7]) ∧ Mod w' w0 S := by
  obtain ⟨rn, rs, hok, m1⟩ := disk_open m t
  clear m
  have Hn := Lib.hid hn
  have Hl := Lib.hid (mget_ptrs_none hg)
  clear hn hg
  have hpos : (0 : Int) < D.size := by have := hok.pos; omega
  go_enter Tryz.func20, Tryz.ntmps20
  go_wp2_with (go_at_call 38; refine (find_none p rn rs D.size _ name (ptrs D.now) _ w0 _ hpos hs (by simp [Hn.out]) Hl.out).mono ?_; rintro e w' ⟨rfl, _inst⟩)
  all_goals go_ret2
  all_goals exact ⟨rfl, fset_back t _inst hok rfl⟩
set_option maxHeartbeats 1000000 in
theorem read_short (i n : Nat) (g : Nat) (f : FileSt) (hn : nameOk name = true) (hg : mget D.now name = some g) (hf : fget D.files g = some f) (h : f.bytes.length < i + n) (hi : i ≤ 9223372036854775807) :
    Calls Tryz.prog 20 #[.pointer (some ⟨p, 0, none⟩), .string name, .int .i64 (i : Int), .int .i64 (n : Int)] w fun e w' => e = .returned (.tuple #[.slice none 0 0, .int .i64 5]) ∧ Mod w' w0 S := by
  obtain ⟨rn, rs, hok, m1⟩ := disk_open m t
  obtain ⟨B, c, m2⟩ := file_open m1 inferInstance hf
  have hfl : f.bytes.length ≤ 1048576 := hok.len _ (mem_of_fget _ _ _ hf)
  clear m m1
  have Hn := Lib.hid hn
  have Hl := Lib.hid (mget_ptrs hg)
  have Hf := Lib.hid hf
  clear hn hg hf
  have hpos : (0 : Int) < D.size := by have := hok.pos; omega
  go_enter Tryz.func20, Tryz.ntmps20
  go_wp2_with (go_at_call 38; refine (find_some p rn rs D.size _ name (ptrs D.now) _ w0 _ (ptr g) hpos hs (by simp [Hn.out]) Hl.out).mono ?_; rintro e w' ⟨rfl, _inst⟩)
  all_goals go_ret2
  all_goals
    have m3 := file_shut _inst Hf.out rfl f rfl rfl rfl
    exact ⟨rfl, back t (disk_shut m3 D hok rfl rfl rfl (fset_same _ _ _ Hf.out))⟩
set_option maxHeartbeats 1000000 in
theorem read_ok (i n : Nat) (g : Nat) (f : FileSt) (hn : nameOk name = true) (hg : mget D.now name = some g) (hf : fget D.files g = some f) (h : i + n ≤ f.bytes.length) :
    Calls Tryz.prog 20 #[.pointer (some ⟨p, 0, none⟩), .string name, .int .i64 (i : Int), .int .i64 (n : Int)] w fun e w' => ∃ A' c', e = .returned (.tuple #[.slice A' n c', .int .i64 0]) ∧ Mod w' w0 (rowA 5 1 (.slice A' n c') n (u8s ((f.bytes.drop i).take n)) * S) := by
  obtain ⟨rn, rs, hok, m1⟩ := disk_open m t
  obtain ⟨B, c, m2⟩ := file_open m1 inferInstance hf
  have hcap : f.bytes.length ≤ c := row_cap (e := 5) (A := B) (n := f.bytes.length) m2
  have hfl : f.bytes.length ≤ 1048576 := hok.len _ (mem_of_fget _ _ _ hf)
  clear m m1
  have Hn := Lib.hid hn
  have Hl := Lib.hid (mget_ptrs hg)
  have Hf := Lib.hid hf
  clear hn hg hf
  have hpos : (0 : Int) < D.size := by have := hok.pos; omega
  by_cases hic : i = c
  · subst hic
    go_enter Tryz.func20, Tryz.ntmps20
    go_wp2_with first
      | (go_at_call 38; refine (find_some p rn rs D.size _ name (ptrs D.now) _ w0 _ (ptr g) hpos hs (by simp [Hn.out]) Hl.out).mono ?_; rintro e w' ⟨rfl, _inst⟩)
      | (go_at_call 36; refine (clone_bytes _ n _ (u8s ((f.bytes.drop i).take n)) w' w0 _ _inst (none_take _ i n _ (by omega)) (one_u8s _) (by omega)).mono ?_; rintro e w2 ⟨A', c', rfl, _m3⟩)
    go_ret2
    refine ⟨A', c', rfl, ?_⟩
    have m3 := file_shut _m3 Hf.out rfl f rfl rfl rfl
    rw [fset_same _ _ _ Hf.out] at m3
    rw [t.eq, sep_left_comm]
    exact disk_shut_eq m3 D hok rfl rfl rfl rfl (by simp only [emp_sep])
  · go_enter Tryz.func20, Tryz.ntmps20
    go_wp2_with first
      | (go_at_call 38; refine (find_some p rn rs D.size _ name (ptrs D.now) _ w0 _ (ptr g) hpos hs (by simp [Hn.out]) Hl.out).mono ?_; rintro e w' ⟨rfl, _inst⟩)
      | (go_at_call 36; refine (clone_part B i n _ f.bytes.length f.bytes w' w0 _ _inst h hfl).mono ?_; rintro e w2 ⟨A', c', rfl, _m3⟩)
    go_ret2
    refine ⟨A', c', rfl, ?_⟩
    have m3 := file_shut _m3 Hf.out rfl f rfl rfl rfl
    rw [fset_same _ _ _ Hf.out] at m3
    rw [t.eq, sep_left_comm]
    exact disk_shut_eq m3 D hok rfl rfl rfl rfl (by simp only [emp_sep])
end
end Go.Proofs.YtmhlebpchllpbaaGreatDoor
namespace Go.Proofs.YtmhlebpchllpbaaGreatDoor
open Go.RowKit Go.Sl
attribute [local go_sem] cell_of frozen_of zero_names
theorem und_names : Tryz.prog.underlying 48 = some (.map (Tryz.prog.mapKey 48) (Tryz.prog.mapElem 48)) := by kernel_rfl
theorem eql_nil_map (w : World) (p : Option Nat) : (binOp .eql 48 (.map p) (.map none)).run Tryz.prog w = .ok (.bool p.isNone) w := by
  have e : ∀ d, (Op.equalIn (d + 1) 48 (.map p) (.map none)).run Tryz.prog w = .ok p.isNone w := fun d => by cases p <;> simp [Op.equalIn, run_underlying und_names]
  simp only [binOp]
  simp [show Op.equal 48 (.map p) (.map none) = Op.equalIn (9999 + 1) 48 (.map p) (.map none) from rfl, e 9999]
theorem typeAssert_names (w : World) (xT : TypeId) (v : Value) : (Instr.typeAssert (.iface 48 v) xT 48 false).run Tryz.prog w = .ok v w := by
  simp [Instr.typeAssert, run_underlying und_names, go_sem, Result.andThen]
attribute [local go_sem] eql_nil_map typeAssert_names
theorem run_clone_s {P : Program} {w w0 : World} {S : Asn} {r : Nat} {L : Pairs} (m : Mod w w0 S) (hm : HasMap S r L) (t : TypeId) :
    ∃ w', (Extern.MapsClone.clone #[.iface t (.map (some r))]).run P w = .ok (.iface t (.map (some w.heap.size))) w' ∧ Mod w' w0 (smap w.heap.size L * S) := by
  obtain ⟨es, clock, hok, hb⟩ := mapBlock (w0 := w0) (S := S) (r := r) (L := L) w
  refine ⟨w.alloc (.map es clock), ?_, Mod.conv (S := blk w.heap.size (.map es clock) * S) fun x hx => sep_imp (A := blk w.heap.size (.map es clock)) (A' := smap w.heap.size L) (fun y hy => ⟨es, clock, hok, hy⟩) hx⟩
  have e : Extern.MapsClone.clone #[.iface t (.map (some r))] = (getObj r >>= fun o => match o with
      | .map entries clock => (newObj (.map entries clock) >>= fun n => pure (.iface t (.map (some n))))
      | _ => stuck "maps.clone: a map expected") := rfl
  rw [e]
  simp [MapKept.run_getObj_map hb, Result.andThen, go_sem]
theorem call_clone (v : Value) (w : World) : (callFunc 87 #[v]).run Tryz.prog w = ((Extern.MapsClone.clone #[v]).run Tryz.prog w).andThen fun v w' => .ok (.value v) w' :=
  run_callFunc_extern Tryz.func87 (by kernel_rfl) (by kernel_rfl) (by kernel_rfl) (by kernel_rfl) _ w
set_option maxHeartbeats 1000000 in
theorem mapsClone_spec (r : Nat) (L : Pairs) (w w0 : World) (S : Asn) (m : Mod w w0 S) (hm : HasMap S r L) :
    Calls Tryz.prog 37 #[.map (some r)] w fun e w' => ∃ r', e = .returned (.map (some r')) ∧ Mod w' w0 (smap r' L * S) := by
  obtain ⟨w1, hrun, m1⟩ := run_clone_s (P := Tryz.prog) m hm 48
  go_enter Tryz.func37, Tryz.ntmps37
  repeat go_step
  rw [call_clone, hrun]
  simp only [Result.andThen]
  rw [Oper.upon_value]
  go_wp2
  go_ret
  exact ⟨_, rfl, m1⟩
theorem ask_none (g : Nat) (size : Int) (x y : Value) (ok : Bool) (w w0 : World) (S : Asn) [Mod w w0 S] [Has S g (.cells #[.int .i64 size, x, y] 50 (0,0))] (hsize : 0 < size) (r : Int) (hr : r = if ok = true then 0 else 1) :
    Calls Tryz.prog 35 #[.pointer (some ⟨g, 0, none⟩), .bool ok, .slice none 0 0] w fun e w' => e = .returned (.int .i64 r) ∧ Mod w' w0 S := by
  subst hr
  cases ok
  all_goals
    go_enter Tryz.func35, Tryz.ntmps35
    go_wp2_with (go_at_call 39; refine (there_live g size x y w w0 S hsize).mono ?_; rintro e w' ⟨rfl, rfl⟩)
    refine wp_loop_rounds 1 ?_
    rw [rounds_succ]
    go_wp2
    go_ret
    exact ⟨rfl, inferInstance⟩
set_option maxHeartbeats 1000000 in
theorem names_spec (p : Nat) (D : DiskSt) (w w0 : World) (S F : Asn) (m : Mod w w0 S) (t : Take S (diskA p) D F) :
    Calls Tryz.prog 46 #[.pointer (some ⟨p, 0, none⟩)] w fun e w' => e = .returned (.int .i64 0) ∧ Mod w' w0 (diskA p { D with sure := D.now } * F) := by
  obtain ⟨rn, rs, hok, m1⟩ := disk_open m t
  clear m
  have hpos : (0 : Int) < D.size := by have := hok.pos; omega
  go_enter Tryz.func46, Tryz.ntmps46
  go_wp2_with first
    | (go_at_call 35; refine (ask_none p D.size _ _ true _ w0 _ hpos 0 rfl).mono ?_; rintro e w' ⟨rfl, _inst⟩)
    | (go_at_call 37; refine (mapsClone_spec rn (ptrs D.now) _ w0 _ _inst inferInstance).mono ?_; rintro e w2 ⟨r', rfl, _m2⟩)
  go_ret
  refine ⟨rfl, ?_⟩
  exact disk_shut (rs := r') (w := w2.setCell ⟨p, 2, none⟩ (.map (some r'))) inferInstance { D with sure := D.now } (names_ok hok) rfl rfl rfl rfl
end Go.Proofs.YtmhlebpchllpbaaGreatDoor
namespace Go.Proofs.YtmhlebpchllpbaaGreatDoor
open Go Go.Sl Go.Maps
theorem owns_smap {P : Program} {k : TypeId} {w w0 : World} {S : Asn} {r : Nat} {L : Pairs} (m : Mod w w0 S) (h : HasMap S r L) (hk : P.underlying k = some .string) (hs : ∀ q ∈ L, q.1.size ≤ maxLen) (hl : L.length ≤ maxLen) :
    ∃ D0 : DataW Unit, w.ownsMap P k (fun _ => some (.nil, [])) r L.length D0 ∧ (strKeys D0).Perm (L.map (·.1.data.toList)) ∧ Maps.size D0 = L.length := by
  obtain ⟨es, clock, hm, hw⟩ := mapBlock (w0 := w0) (S := S) (r := r) (L := L) w
  have hlen : es.size = L.length := by have := congrArg List.length hm.keys; simpa using this
  have hkeys : es.toList.map (·.key) = L.map fun q => Value.string q.1 := by
    have := congrArg (List.map Prod.fst) hm.keys
    simpa [List.map_map, Function.comp_def] using this
  have hrd : ∀ x ∈ es.toList, ∃ q ∈ L, x.key = .string q.1 ∧ WideElems.rd P k (fun _ => some ((.nil : DataW Unit), [])) x = some (.string q.1.data.toList, .nil) := by
    intro x hx
    have h1 : x.key ∈ L.map fun q => Value.string q.1 := by rw [← hkeys]; exact List.mem_map_of_mem hx
    obtain ⟨q, hq, hqk⟩ := List.mem_map.1 h1
    refine ⟨q, hq, hqk.symm, ?_⟩
    have hko : keyOf P k x.key = some (.string q.1.data.toList) := by
      rw [← hqk]; simp [keyOf, hk, mapKey, hs q hq]
    simp [WideElems.rd, hko]
  have hfit : WideElems.Fit P k (fun _ => some ((.nil : DataW Unit), [])) es clock := by
    refine ⟨by omega, ⟨hm.lt, ?_, ?_⟩, fun x hx => let ⟨q, _, _, h⟩ := hrd x hx; ⟨_, h⟩⟩
    · exact List.pairwise_map.2 (hm.born.imp fun h e => by omega)
    · rw [hkeys]
      have := hm.nodup
      have e : (L.map fun q => Value.string q.1) = (L.map (·.1)).map Value.string := by rw [List.map_map]; rfl
      rw [e]
      refine List.pairwise_map.2 (this.imp fun hne heq => hne ?_)
      injection heq
  refine ⟨_, ⟨es, clock, hw, hfit, by omega, rfl⟩, ?_, ?_⟩
  · have hp := WideShapes.sorted_perm (es.toList.map (WideElems.rg P k (fun _ => some ((.nil : DataW Unit), []))))
    refine (hp.map fun p => strOf p.1).trans ?_
    rw [List.map_map]
    have e : es.toList.map ((fun p : Lit × DataW Unit => strOf p.1) ∘ WideElems.rg P k (fun _ => some ((.nil : DataW Unit), []))) = L.map (·.1.data.toList) := by
      have h2 : ∀ x ∈ es.toList, ((fun p : Lit × DataW Unit => strOf p.1) ∘ WideElems.rg P k (fun _ => some ((.nil : DataW Unit), []))) x = (fun v => match v with | .string s => s.data.toList | _ => []) x.key := by
        intro x hx
        obtain ⟨q, hq, hqk, h⟩ := hrd x hx
        simp [Function.comp, WideElems.rg, h, hqk, strOf]
      rw [List.map_congr_left h2]
      have h3 := congrArg (List.map fun v => match v with | Value.string s => s.data.toList | _ => []) hkeys
      rw [List.map_map, List.map_map] at h3
      exact h3
    rw [e]
  · rw [Maps.size_eq]
    have := (WideShapes.sorted_perm (es.toList.map (WideElems.rg P k (fun _ => some ((.nil : DataW Unit), []))))).length_eq
    rw [this]; simp [hlen]
end Go.Proofs.YtmhlebpchllpbaaGreatDoor
