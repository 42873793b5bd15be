/- What a failure leaves of a disk, told by names: a contract; the conditions are in the theorem. -/
import Derived.Test.YtmpgnnjhgjfgaaaDoorTwo
import Derived.Test.YtmpgnnjhgjfgaaaDoorOps
namespace Go.Proofs.YtmpgnnjhgjfgaaaDoor
open Go.RowKit Go.Sl Go.Maps
theorem drop_mid {w w0 : World} {A X R : Asn} (m : Mod w w0 (A * (X * R))) : Mod w w0 (A * R) := by
  have : Mod w w0 (X * (A * R)) := Mod.to (m := m) (sep_left_comm _ _ _)
  exact Mod.drop (A := X)
theorem swap_two {w w0 : World} {A X R : Asn} (m : Mod w w0 (A * (X * R))) : Mod w w0 (X * (A * R)) := Mod.to (m := m) (sep_left_comm _ _ _)
/-- Two parts to the front, the rest forgotten but for G. -/
theorem repack {w w0 : World} {S F1 F2 G : Asn} {V1 V2 : Type} (p1 : V1 → Asn) (p2 : V2 → Asn) {v1 : V1} {v2 : V2} (m : Mod w w0 S) [t1 : Take S p1 v1 F1] [t2 : Take F1 p2 v2 F2] [s : Sub F2 G] : Mod w w0 (p1 v1 * (p2 v2 * G)) := by
  have e : S = (p1 v1 * p2 v2) * F2 := by rw [t1.eq, t2.eq, sep_assoc]
  rw [e] at m
  rw [← sep_assoc]
  refine ⟨m.os, m.tape, m.output, ?_⟩
  have h := m.says
  rw [sep_assoc] at h ⊢
  obtain ⟨a, b, h1, h2, h3, h4⟩ := h
  exact ⟨a, b, h1, h2, h3, s.sub _ h4⟩
theorem repack1 {w w0 : World} {S F1 G : Asn} {V1 : Type} (p1 : V1 → Asn) {v1 : V1} (m : Mod w w0 S) [t1 : Take S p1 v1 F1] [s : Sub F1 G] : Mod w w0 (p1 v1 * G) := by
  rw [t1.eq] at m
  refine ⟨m.os, m.tape, m.output, ?_⟩
  have h := m.says
  rw [sep_assoc] at h ⊢
  obtain ⟨a, b, h1, h2, h3, h4⟩ := h
  exact ⟨a, b, h1, h2, h3, s.sub _ h4⟩
theorem repack3 {w w0 : World} {S F1 F2 F3 G : Asn} {V1 V2 V3 : Type} (p1 : V1 → Asn) (p2 : V2 → Asn) (p3 : V3 → Asn) {v1 : V1} {v2 : V2} {v3 : V3} (m : Mod w w0 S) [t1 : Take S p1 v1 F1] [t2 : Take F1 p2 v2 F2] [t3 : Take F2 p3 v3 F3] [s : Sub F3 G] : Mod w w0 (p1 v1 * (p2 v2 * (p3 v3 * G))) := by
  have e : S = (p1 v1 * (p2 v2 * p3 v3)) * F3 := by rw [t1.eq, t2.eq, t3.eq, sep_assoc, sep_assoc]
  rw [e] at m
  have e3 : p1 v1 * (p2 v2 * (p3 v3 * G)) = (p1 v1 * (p2 v2 * p3 v3)) * G := by rw [sep_assoc, sep_assoc]
  rw [e3]
  refine ⟨m.os, m.tape, m.output, ?_⟩
  have h := m.says
  rw [sep_assoc] at h ⊢
  obtain ⟨a, b, h1, h2, h3, h4⟩ := h
  exact ⟨a, b, h1, h2, h3, s.sub _ h4⟩
theorem row_none {w w0 : World} {S : Asn} {e : TypeId} (m : Mod w w0 S) : Mod w w0 (rowA e 1 (.slice none 0 0) 0 [] * S) := by
  refine Mod.conv (S := emp * S) (m := by rw [emp_sep]; exact m) fun _ h => sep_imp (A := emp) (fun y hy => ?_) h
  have hy : y = Hp.none := hy
  subst hy; exact rowA_nil _ _
theorem append_len (p : Nat) (D : DiskSt) (name : ByteArray) (w w0 : World) (S F : Asn) (m : Mod w w0 S) (t : Take S (diskA p) D F) (hs : name.size ≤ 9223372036854775807) (A : Option Addr) (k c : Nat) (b : List UInt8) (hb : b.length = k) [r : Reads F A k (u8s b)] (g : Nat) (f : FileSt) (hn : nameOk name = true) (hg : mget D.now name = some g) (hf : fget D.files g = some f) (h1 : k ≤ leftOf D) (h2 : f.bytes.length + k ≤ 1048576) :
    Calls Tryd.prog 19 #[.pointer (some ⟨p, 0, none⟩), .string name, .slice A k c] w fun e w' => e = .returned (.int .i64 0) ∧ Mod w' w0 (diskA p { D with files := fset D.files g ⟨f.bytes ++ b, f.sure⟩ } * F) := by
  subst hb
  exact append_ok p D name w w0 S F m t hs A c b g f hn hg hf h1 h2
structure LeftOf (D : DiskSt) (keep : Nat) (b : Bool) (D' : DiskSt) : Prop where
  size : D'.size = D.size
  ok : DiskOk D'
  both : D'.sure = D'.now
  names : (D'.now.map (·.1)).Perm ((namesLeft D b).map (·.1))
  file : ∀ q ∈ namesLeft D b, ∃ g, mget D'.now q.1 = some g ∧ fget D'.files g = some (keptOf D keep q.2)
theorem fail_left (p : Nat) (D : DiskSt) (w w0 : World) (S F : Asn) (m : Mod w w0 S) (t : Take S (diskA p) D F) (keep : Nat) (b : Bool) (hk : keep ≤ 9223372036854775807) (k : Int) (hki : k = keep) :
    Calls Tryd.prog 23 #[.pointer (some ⟨p, 0, none⟩), .int .i64 k, .bool b] w fun e w' => ∃ p' D', e = .returned (.tuple #[ptr p', .int .i64 0]) ∧ LeftOf D keep b D' ∧ Mod w' w0 (diskA p' D' * S) := by
  subst hki
  refine (fail_ok p D w w0 S F m t keep b hk).mono ?_
  rintro e w' ⟨p', M, rfl, hM, hd, hok, m'⟩
  refine ⟨p', ⟨D.size, M.dir, M.dir, M.tab⟩, rfl, ⟨rfl, hok, rfl, ?_, fun q hq => ?_⟩, m'⟩
  · have h1 := hM.map (·.1)
    rw [List.map_map, List.map_map] at h1
    rw [dir_names]
    exact (List.reverse_perm _).trans h1
  · have h1 : (q.1, keptOf D keep q.2) ∈ M.map fun q => (q.1, q.2.2) := hM.symm.subset (List.mem_map_of_mem (f := fun q : ByteArray × Nat => (q.1, keptOf D keep q.2)) hq)
    obtain ⟨r, hr, he⟩ := List.mem_map.1 h1
    injection he with e1 e2
    rw [← e1, ← e2]
    have hdir : (r.1, r.2.1) ∈ M.dir := List.mem_reverse.2 (List.mem_map_of_mem (f := fun q : ByteArray × Nat × FileSt => (q.1, q.2.1)) hr)
    exact ⟨r.2.1, mget_mem hok.keys hdir, fget_mem _ _ _ (by unfold Made.tab; rw [List.map_map]; exact hd) (List.mem_map_of_mem (f := fun q : ByteArray × Nat × FileSt => q.2) hr)⟩
theorem allOf_at {D : DiskSt} {name : ByteArray} {g : Nat} {f : FileSt} (hn : nameOk name = true) (hg : mget D.now name = some g) (hf : fget D.files g = some f) : allOf D name = f.bytes := by
  simp [allOf, fileAt, hn, hg, hf]
theorem LeftOf.all {D D' : DiskSt} {keep : Nat} {b : Bool} (h : LeftOf D keep b D') {name : ByteArray} {g : Nat} (hn : nameOk name = true) (hg : (name, g) ∈ namesLeft D b) : allOf D' name = (keptOf D keep g).bytes := by
  obtain ⟨g', h1, h2⟩ := h.file _ hg
  exact allOf_at hn h1 h2
theorem LeftOf.list {D D' : DiskSt} {keep : Nat} {b : Bool} (h : LeftOf D keep b D') : listOf D' = ((namesLeft D b).map (·.1.data.toList)).mergeSort leB := by
  unfold listOf
  refine mergeSort_of_perm ?_
  have := h.names.map (fun s : ByteArray => s.data.toList)
  rw [List.map_map, List.map_map] at this
  exact this
theorem keptOf_some {D : DiskSt} {g : Nat} {f : FileSt} (h : fget D.files g = some f) (keep : Nat) : keptOf D keep g = kept keep f := by unfold keptOf; rw [h]
end Go.Proofs.YtmpgnnjhgjfgaaaDoor
