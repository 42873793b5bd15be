/- Acts with a disk (bucketlinelaw05): what a slice of them reads as, the laws' helpers Great and does: contracts over the small separation logic; the conditions are in each theorem. -/
import Derived.Test.YtmpgnnjhgjfgaaaDoorLeft
import Derived.Test.YtmpgnnjhgjfgaaaDoorArgs
import Derived.Deep.LoopGhost
import Derived.Deep.QuietTactic
import Derived.BigQuiet
namespace Go.Proofs.YtmpgnnjhgjfgaaaDoor
open Go.RowKit Go.Sl
attribute [local go_sem] cell_of frozen_of zero_names
structure ActV where
  kind : Nat
  name : ByteArray
  to : ByteArray
  bA : Option Addr
  bc : Nat
  b : List UInt8
  off : Int
  n : Int
  names : Bool
def ActV.cells (x : ActV) : List Value := [.int .u8 (x.kind : Int), .string x.name, .string x.to, .slice x.bA x.b.length x.bc, .int .i64 x.off, .int .i64 x.n, .bool x.names]
def ActV.weight (x : ActV) : Nat := 1 + x.b.length + x.name.size + x.to.size
def weight : List ActV → Nat
  | [] => 0
  | x :: l => x.weight + weight l
theorem weight_append (a b : List ActV) : weight (a ++ b) = weight a + weight b := by
  induction a with
  | nil => simp [weight]
  | cons x a ih => simp only [List.cons_append, weight, ih]; omega
theorem weight_take_succ (l : List ActV) (k : Nat) (h : k < l.length) : weight (l.take (k + 1)) = weight (l.take k) + l[k].weight := by
  rw [List.take_succ_eq_append_getElem h, weight_append]; simp [weight]
theorem weight_take_le (l : List ActV) (k : Nat) : weight (l.take k) ≤ weight l := by
  have := weight_append (l.take k) (l.drop k)
  rw [List.take_append_drop] at this; omega
/-- What is read stays read, in more. -/
theorem reads_lift {S' S : Asn} {A : Option Addr} {n : Nat} {xs : List Value} (s : Sub S' S) (r : Reads S A n xs) : Reads S' A n xs := by
  have key : ∀ h, S'.says h → ∃ a, S.says a ∧ ∀ k o, a k = some o → h k = some o := by
    intro h hh
    obtain ⟨a, b, _, hj, ha, _⟩ := s.sub h ⟨h, Hp.none, fun _ => .inr rfl, by funext k; simp [Hp.join, Hp.none], hh, trivial⟩
    exact ⟨a, ha, fun k o hk => by rw [hj]; simp [Hp.join, hk]⟩
  refine ⟨fun h hh => by obtain ⟨a, ha, _⟩ := key h hh; exact r.len a ha, fun h hh hn => ?_⟩
  obtain ⟨a, ha, hk⟩ := key h hh
  obtain ⟨ad, h1, h2, h3⟩ := r.cell a ha hn
  exact ⟨ad, h1, h2, fun j u hu => by obtain ⟨c, e, f, h4, h5⟩ := h3 j u hu; exact ⟨c, e, f, hk _ _ h4, h5⟩⟩
structure ReadsActs (S : Asn) (A : Option Addr) (n : Nat) (l : List ActV) : Prop where
  len : l.length = n
  cells : Reads S A (n * 7) (l.flatMap ActV.cells)
  bytes : ∀ x ∈ l, Reads S x.bA x.b.length (u8s x.b)
  kinds : ∀ x ∈ l, x.kind < 256
  small : ∀ x ∈ l, x.b.length ≤ 140737488355328 ∧ x.name.size ≤ 140737488355328 ∧ x.to.size ≤ 140737488355328
theorem ReadsActs.lift {S' S : Asn} {A : Option Addr} {n : Nat} {l : List ActV} (s : Sub S' S) (r : ReadsActs S A n l) : ReadsActs S' A n l :=
  ⟨r.len, reads_lift s r.cells, fun x hx => reads_lift s (r.bytes x hx), r.kinds, r.small⟩
theorem act_cell : ∀ (l : List ActV) (k j : Nat) (v : Value) (h : k < l.length), l[k].cells[j]? = some v → (l.flatMap ActV.cells)[k * 7 + j]? = some v
  | [], k, _, _, h, _ => by simp at h
  | x :: l, 0, j, v, _, hv => by
    simp only [List.getElem_cons_zero] at hv
    rw [List.flatMap_cons, Nat.zero_mul, Nat.zero_add, List.getElem?_append_left (List.getElem?_eq_some_iff.1 hv).1]
    exact hv
  | x :: l, k + 1, j, v, h, hv => by
    have hl : x.cells.length = 7 := rfl
    rw [List.flatMap_cons, List.getElem?_append_right (by rw [hl]; omega), hl, show (k + 1) * 7 + j - 7 = k * 7 + j by omega]
    exact act_cell l k j v (by simpa using h) (by simpa using hv)
theorem reads_act {w w0 : World} {S : Asn} {A : Option Addr} {n : Nat} {l : List ActV} (m : Mod w w0 S) (r : ReadsActs S A n l) {k : Nat} (hk : k < n) : ∃ b o, A = some ⟨b, o, none⟩ ∧ ∃ h : k < l.length, w.cell? ⟨b, o + k * 7, none⟩ = some (.int .u8 (l[k].kind : Int)) ∧
    w.cell? ⟨b, o + k * 7 + 1, none⟩ = some (.string l[k].name) ∧ w.cell? ⟨b, o + k * 7 + 2, none⟩ = some (.string l[k].to) ∧ w.cell? ⟨b, o + k * 7 + 3, none⟩ = some (.slice l[k].bA l[k].b.length l[k].bc) ∧ w.cell? ⟨b, o + k * 7 + 4, none⟩ = some (.int .i64 l[k].off) ∧ w.cell? ⟨b, o + k * 7 + 5, none⟩ = some (.int .i64 l[k].n) ∧ w.cell? ⟨b, o + k * 7 + 6, none⟩ = some (.bool l[k].names) := by
  obtain ⟨ad, ha, hs, hc⟩ := reads_cell m r.cells (by omega)
  obtain ⟨b, o, sp⟩ := ad
  simp only at hs
  subst hs
  have hkl : k < l.length := by rw [r.len]; exact hk
  have key : ∀ j v, l[k].cells[j]? = some v → w.cell? ⟨b, o + k * 7 + j, none⟩ = some v := fun j v hv => by
    have := hc (k * 7 + j) v (act_cell l k j v hkl hv)
    rw [← Nat.add_assoc] at this
    exact this
  exact ⟨b, o, ha, hkl, key 0 _ rfl, key 1 _ rfl, key 2 _ rfl, key 3 _ rfl, key 4 _ rfl, key 5 _ rfl, key 6 _ rfl⟩
set_option maxHeartbeats 2000000 in
theorem great_spec (A : Option Addr) (n c : Nat) (l : List ActV) (w w0 : World) (S : Asn) (m : Mod w w0 S) (r : ReadsActs S A n l) (hn : n ≤ 9223372036854775807) :
    Calls Tryd.prog 25 #[.slice A n c] w fun e w' => e = .returned (.bool (decide (40000 < weight l ∨ 200 < n))) ∧ Mod w' w0 S := by
  go_enter Tryd.func25, Tryd.ntmps25
  go_wp2
  go_loopg [3, 4] n (fun gk t i wr => ∃ k : Nat, k ≤ n ∧ gk = n - k ∧ i = .int .i64 (k : Int) ∧ t = .int .i64 ((weight (l.take k) : Nat) : Int) ∧ weight (l.take k) ≤ 40000 ∧ Mod wr w0 S)
  case atStart => exact ⟨0, Nat.zero_le _, rfl, rfl, rfl, Nat.zero_le _, m⟩
  case round =>
    obtain ⟨k, hkn, hgk, rfl, rfl, hle, m2⟩ := hrel
    by_cases hlt : k < n
    · obtain ⟨b1, o1, rfl, hkl, hc0, hc1, hc2, hc3, _, _, _⟩ := reads_act m2 r hlt
      have hki : (k : Int) < (n : Int) := by omega
      have hs := r.small l[k] (List.getElem_mem hkl)
      have hw := weight_take_succ l k hkl
      have hwl := weight_take_le l (k + 1)
      unfold ActV.weight at hw
      generalize l[k] = x at *
      obtain ⟨hs1, hs2, hs3⟩ := hs
      by_cases hbig : 40000 < weight (l.take (k + 1))
      · have hd : decide (40000 < weight l ∨ 200 < n) = true := decide_eq_true (.inl (by omega))
        have Hd := Lib.hid hd
        clear hd
        go_wp2
        go_quiet (fail)
        go_wp2
        go_ret
        exact ⟨by rw [Hd.out]; rfl, Mod.drewN (m := m2) nq⟩
      · go_wp2
        go_quiet (fail)
        go_wp2
        go_roundg (n - (k + 1))
        case measure => omega
        case rel => exact ⟨k + 1, by omega, rfl, by go_num, by congr 1; omega, by omega, Mod.drewN (m := m2) nq⟩
    · have hk2 : k = n := by omega
      subst hk2
      go_wp2
      go_ret
      refine ⟨?_, m2⟩
      rw [show weight (l.take k) = weight l from by rw [← r.len, List.take_length]] at hle
      have e : decide (40000 < weight l ∨ 200 < k) = decide (200 < k) := by simp; omega
      rw [e]
      simp
      omega
set_option maxHeartbeats 4000000 in
theorem does_spec (p : Nat) (D : DiskSt) (A : Option Addr) (n c : Nat) (l : List ActV) (w w0 : World) (S F : Asn) (m : Mod w w0 S) (t : Take S (diskA p) D F) (r : ReadsActs F A n l) (hn : n ≤ 9223372036854775807) :
    Calls Tryd.prog 27 #[ptr p, .slice A n c] w fun e w' => e = .returned (.tuple #[]) ∧ ∃ D', D'.size = D.size ∧ used D' ≤ used D + weight l ∧ Mod w' w0 (diskA p D' * F) := by
  have m0 : Mod w w0 (diskA p D * F) := stays t m
  clear m t
  go_enter Tryd.func27, Tryd.ntmps27
  go_wp2
  go_loopg [4] n (fun gk i wr => ∃ (k : Nat) (D' : DiskSt), k ≤ n ∧ gk = n - k ∧ i = .int .i64 (k : Int) ∧ D'.size = D.size ∧ used D' ≤ used D + weight (l.take k) ∧ Mod wr w0 (diskA p D' * F))
  case atStart => exact ⟨0, D, Nat.zero_le _, rfl, rfl, rfl, Nat.le_refl _, m0⟩
  case round =>
    obtain ⟨k, D', hkn, hgk, rfl, hsz, hus, m2⟩ := hrel
    by_cases hlt : k < n
    · obtain ⟨b1, o1, rfl, hkl, hc0, hc1, hc2, hc3, hc4, hc5, hc6⟩ := reads_act m2 (r.lift inferInstance) hlt
      have hki : (k : Int) < (n : Int) := by omega
      have hs := r.small l[k] (List.getElem_mem hkl)
      have hkd := r.kinds l[k] (List.getElem_mem hkl)
      have hw := weight_take_succ l k hkl
      have rb := r.bytes l[k] (List.getElem_mem hkl)
      unfold ActV.weight at hw
      generalize l[k] = x at *
      obtain ⟨hs1, hs2, hs3⟩ := hs
      obtain ⟨kk, hkk⟩ : ∃ kk, x.kind % 10 = kk := ⟨_, rfl⟩
      have hkk2 : ((x.kind : Int) % 10) = (kk : Int) := by omega
      have hkk1 : kk = 0 ∨ kk = 1 ∨ kk = 2 ∨ kk = 3 ∨ kk = 4 ∨ kk = 5 ∨ kk = 6 ∨ kk = 7 ∨ kk = 8 ∨ kk = 9 := by omega
      clear hkk
      rcases hkk1 with rfl | rfl | rfl | rfl | rfl | rfl | rfl | rfl | rfl | rfl
      · have flag := True.intro
        go_wp2_with first
          | (go_at_call 18; clear flag; refine (create_any p D' x.name _ w0 _ _ inferInstance inferInstance (by omega)).mono ?_; rintro e w3 ⟨r3, D2, rfl, h1, h2, m3⟩)
        go_roundg (n - (k + 1))
        case measure => omega
        case rel => exact ⟨k + 1, D2, by omega, rfl, by go_num, h1.trans hsz, by omega, repack1 (diskA p) m3⟩
      · have flag := True.intro
        go_wp2_with first
          | (go_at_call 20; clear flag; refine (remove_any p D' x.name _ w0 _ _ inferInstance inferInstance (by omega)).mono ?_; rintro e w3 ⟨r3, D2, rfl, h1, h2, _, m3⟩)
        go_roundg (n - (k + 1))
        case measure => omega
        case rel => exact ⟨k + 1, D2, by omega, rfl, by go_num, h1.trans hsz, by omega, repack1 (diskA p) m3⟩
      · have flag := True.intro
        go_wp2_with first
          | (go_at_call 43; clear flag; refine (rename_any p D' x.name _ w0 _ _ inferInstance inferInstance (by omega) x.to (by omega)).mono ?_; rintro e w3 ⟨r3, D2, rfl, h1, h2, m3⟩)
        go_roundg (n - (k + 1))
        case measure => omega
        case rel => exact ⟨k + 1, D2, by omega, rfl, by go_num, h1.trans hsz, by omega, repack1 (diskA p) m3⟩
      · have flag := True.intro
        go_wp2_with first
          | (go_at_call 19; clear flag; refine (append_any p D' x.name _ w0 _ _ inferInstance inferInstance (by omega) x.bA x.bc x.b (by omega)).mono ?_; rintro e w3 ⟨r3, D2, rfl, h1, h2, m3⟩)
        go_roundg (n - (k + 1))
        case measure => omega
        case rel => exact ⟨k + 1, D2, by omega, rfl, by go_num, h1.trans hsz, by omega, repack1 (diskA p) m3⟩
      · have flag := True.intro
        go_wp2_with first
          | (go_at_call 19; clear flag; refine (append_any p D' x.name _ w0 _ _ inferInstance inferInstance (by omega) x.bA x.bc x.b (by omega)).mono ?_; rintro e w3 ⟨r3, D2, rfl, h1, h2, m3⟩)
        go_roundg (n - (k + 1))
        case measure => omega
        case rel => exact ⟨k + 1, D2, by omega, rfl, by go_num, h1.trans hsz, by omega, repack1 (diskA p) m3⟩
      · go_wp2_with fail
        go_roundg (n - (k + 1))
        case measure => omega
        case rel => exact ⟨k + 1, D', by omega, rfl, by go_num, hsz, by omega, repack1 (diskA p) inferInstance⟩
      · have flag := True.intro
        go_wp2_with first
          | (go_at_call 40; clear flag; refine (sync_any p D' x.name _ w0 _ _ inferInstance inferInstance (by omega)).mono ?_; rintro e w3 ⟨r3, D2, rfl, h1, h2, m3⟩)
        go_roundg (n - (k + 1))
        case measure => omega
        case rel => exact ⟨k + 1, D2, by omega, rfl, by go_num, h1.trans hsz, by omega, repack1 (diskA p) m3⟩
      · have flag := True.intro
        go_wp2_with first
          | (go_at_call 22; clear flag; refine (names_spec p D' _ w0 _ _ inferInstance inferInstance).mono ?_; rintro e w3 ⟨rfl, m3⟩)
        go_roundg (n - (k + 1))
        case measure => omega
        case rel => exact ⟨k + 1, { D' with sure := D'.now }, by omega, rfl, by go_num, hsz, by show used D' ≤ _; omega, repack1 (diskA p) m3⟩
      · go_wp2_with fail
        go_roundg (n - (k + 1))
        case measure => omega
        case rel => exact ⟨k + 1, D', by omega, rfl, by go_num, hsz, by omega, repack1 (diskA p) inferInstance⟩
      · go_wp2_with fail
        go_roundg (n - (k + 1))
        case measure => omega
        case rel => exact ⟨k + 1, D', by omega, rfl, by go_num, hsz, by omega, repack1 (diskA p) inferInstance⟩
    · have hk2 : k = n := by omega
      subst hk2
      rw [show weight (l.take k) = weight l from by rw [← r.len, List.take_length]] at hus
      go_wp2
      go_end0
      exact ⟨rfl, D', hsz, hus, m2⟩
end Go.Proofs.YtmpgnnjhgjfgaaaDoor
