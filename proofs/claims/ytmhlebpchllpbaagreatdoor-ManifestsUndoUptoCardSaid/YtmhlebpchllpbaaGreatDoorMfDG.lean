/- The contracts that a manifest's Add and Open call, in one frame: the conditions are in each theorem.
A manifest's Add: a contract over the small separation logic; the conditions are in the theorem.
A manifest's Add, where the edit may be: a contract over the small separation logic; the conditions are in the theorem. -/
import Derived.Test.YtmhlebpchllpbaaGreatDoorMfCG
import Derived.Test.YtmhlebpchllpbaaGreatDoorMfBG
import Derived.Deep.CutRange
import Derived.Deep.RegionWith
import Derived.WalkSpells
namespace Go.Proofs.YtmhlebpchllpbaaGreatDoor
open Go.RowKit Go.Sl
/-- A manifest with its disk, its journal and its files. -/
abbrev manS (mp p jj num many : Nat) (A : Option Addr) (c : Nat) (k : MKnow) (D : DiskSt) (en : Nat) (G : Asn) : Asn :=
  diskA p D * (mfA mp p (ptr jj) num many (.slice A k.files.length k.files.length) k.nums * (jourA jj p (mname num) en * (kfA A c k.files * G)))
section
variable (mp p jj num many : Nat) (A : Option Addr) (c : Nat) (k : MKnow) (D : DiskSt) (xs : List EditV) (w w0 : World) (G : Asn)
theorem manS_mf (en : Nat) : manS mp p jj num many A c k D en G = mfA mp p (ptr jj) num many (.slice A k.files.length k.files.length) k.nums * (kfA A c k.files * (diskA p D * (jourA jj p (mname num) en * G))) := by unfold manS; ac_rfl
theorem manS_jour (en : Nat) : manS mp p jj num many A c k D en G = diskA p D * (jourA jj p (mname num) en * (mfA mp p (ptr jj) num many (.slice A k.files.length k.files.length) k.nums * (kfA A c k.files * G))) := by unfold manS; ac_rfl
theorem whole_at (en : Nat) (m : Mod w w0 (manS mp p jj num many A c k D en G)) (hk : KnowOk k) (hlen : k.files.length ≤ 1100000) :
    Calls Tryz.prog 32 #[ptr mp] w fun e w' => ∃ g R, e = .returned (.slice (some ⟨g, 0, none⟩) 1 1) ∧ ReadsRecs R (some ⟨g, 0, none⟩) 1 [editB k.whole] ∧ Mod w' w0 (manS mp p jj num many A c k D en (R * G)) := by
  rw [manS_mf] at m
  refine (mWhole_spec mp p (ptr jj) num many A c k w w0 _ m hk hlen).mono fun e w' ⟨g, R, h1, h2, h3⟩ => ⟨g, R, h1, h2, ?_⟩
  exact Mod.to (m := h3) (by unfold manS; ac_rfl)
/-- What a begin with all that is known leaves. -/
def BegOut (num : Nat) (k : MKnow) (D : DiskSt) (xs : List EditV) (e0 : Int) (D' : DiskSt) (num' : Nat) (xs' : List EditV) : Prop :=
  MInv D' num' xs' k ∧ D'.size = D.size ∧ num' ≤ num + 1 ∧ ((e0 = 0 ∧ xs' = [k.whole]) ∨ (e0 = 6 ∧ xs' = xs ∧ ¬ FineJ D (mname (num + 1)) [editB k.whole]))
theorem MInv.free {D : DiskSt} {num : Nat} {xs : List EditV} {k : MKnow} (h : MInv D num xs k) (hnum : num + 1 < 4294967296) : mget D.now (mname (num + 1)) = none ∧ mget D.now nNew = none := by
  constructor
  · cases hg : mget D.now (mname (num + 1)) with
    | none => rfl
    | some g =>
      rcases h.disk.own _ (mem_of_mget hg) (own_name _) with e | e
      · exact absurd e (name_not_M _)
      · have := name_inj hnum (by omega) e; omega
  · cases hg : mget D.now nNew with
    | none => rfl
    | some g =>
      rcases h.disk.own _ (mem_of_mget hg) own_New with e | e
      · exact absurd e.symm M_not_New
      · exact absurd e.symm (name_not_New _)
theorem begin_at (m0 : Nat) (R : Asn) (g : Nat) (m : Mod w w0 (manS mp p jj num m0 A c k D (journal [] (recsB xs)).length (R * G))) (hm0 : m0 = xs.length) (r : ReadsRecs R (some ⟨g, 0, none⟩) 1 [editB k.whole]) (tab : TabIn G) (h : MInv D num xs k) (hnum : num + 1 < 4294967296) (hlen : k.files.length ≤ 1100000) :
    Calls Tryz.prog 18 #[ptr mp, .slice (some ⟨g, 0, none⟩) 1 1] w fun e w' => ∃ (e0 : Int) (D' : DiskSt) (jj' num' : Nat) (xs' : List EditV), e = .returned (.int .i64 e0) ∧ BegOut num k D xs e0 D' num' xs' ∧
      Mod w' w0 (manS mp p jj' num' xs'.length A c k D' (journal [] (recsB xs')).length G) := by
  subst hm0
  have m1 : Mod w w0 (diskA p D * (mfA mp p (ptr jj) num xs.length (.slice A k.files.length k.files.length) k.nums * (R * (jourA jj p (mname num) (journal [] (recsB xs)).length * (kfA A c k.files * G))))) := Mod.to (m := m) (by unfold manS; ac_rfl)
  have hok := okOf (F := mfA mp p (ptr jj) num xs.length (.slice A k.files.length k.files.length) k.nums * (R * (jourA jj p (mname num) (journal [] (recsB xs)).length * (kfA A c k.files * G)))) m1 ⟨rfl⟩
  obtain ⟨h1, h2⟩ := h.free hnum
  refine (mBegin_spec mp p (ptr jj) num xs.length _ k.nums D (some ⟨g, 0, none⟩) 1 1 [editB k.whole] w w0 _ m1 (r.lift inferInstance) (tab.lift inferInstance) hnum h1 h2 (by have := h.two hok; omega) (by omega)).mono fun e w' hb => ?_
  rcases hb with ⟨rfl, hsm, jj', g1, g2, q1, q2, q3⟩ | ⟨rfl, hnf, D', q1, q2, q3, q4⟩
  · refine ⟨0, _, jj', num + 1, [k.whole], rfl, ⟨h.begun hlen hsm q1 q2, rfl, Nat.le_refl _, .inl ⟨rfl, rfl⟩⟩, ?_⟩
    exact Mod.drop (A := R * jourA jj p (mname num) (journal [] (recsB xs)).length) (m := Mod.to (m := q3) (by unfold manS; ac_rfl))
  · refine ⟨6, D', jj, num, xs, rfl, ⟨h.failed q1 q2 q3, q1.size, Nat.le_succ _, .inr ⟨rfl, rfl, hnf⟩⟩, ?_⟩
    exact Mod.drop (A := R) (m := Mod.to (m := q4) (by unfold manS; ac_rfl))
/-- The disk with a record behind the others, not yet sure. -/
def putD (D : DiskSt) (gj : Nat) (rs : List (List UInt8)) (b : List UInt8) : DiskSt := { D with files := fset D.files gj ⟨journal [] (rs ++ [b]), (journal [] rs).length⟩ }
def sureD (D : DiskSt) (gj : Nat) (rs : List (List UInt8)) : DiskSt := { D with files := fset D.files gj ⟨journal [] rs, (journal [] rs).length⟩ }
theorem add_at (b : List UInt8) (B : Option Addr) (cb gj : Nat) (m : Mod w w0 (manS mp p jj num many A c k D (journal [] (recsB xs)).length G)) (hnum : num < 4294967296) (r : Reads G B b.length (u8s b)) (hc : b.length ≤ cb)
    (hg : mget D.now (mname num) = some gj) (hf : fget D.files gj = some ⟨journal [] (recsB xs), (journal [] (recsB xs)).length⟩) :
    Calls Tryz.prog 33 #[ptr jj, .slice B b.length cb] w fun e w' => (fitsJ D (journal [] (recsB xs)).length b ∧ e = .returned (.int .i64 0) ∧ Mod w' w0 (manS mp p jj num many A c k (putD D gj (recsB xs) b) (journal [] (recsB xs ++ [b])).length G)) ∨
      (¬ fitsJ D (journal [] (recsB xs)).length b ∧ ∃ r : Int, (r = 3 ∨ r = 6) ∧ e = .returned (.int .i64 r) ∧ Mod w' w0 (manS mp p jj num many A c k D (journal [] (recsB xs)).length G)) := by
  have hok := okOf (F := mfA mp p (ptr jj) num many (.slice A k.files.length k.files.length) k.nums * (jourA jj p (mname num) (journal [] (recsB xs)).length * (kfA A c k.files * G))) m ⟨rfl⟩
  have hs : (mname num).size ≤ 9223372036854775807 := by have := name_small hnum; omega
  rw [manS_jour] at m
  refine (add_any jj p D (mname num) w w0 _ B cb b gj ⟨journal [] (recsB xs), (journal [] (recsB xs)).length⟩ hs (ok_name hnum) hg hf m (reads_lift inferInstance r) hc (hok.len _ (mem_of_fget _ _ _ hf))).mono fun e w' hb => ?_
  rcases hb with ⟨q0, q1, q2⟩ | ⟨q0, r', q3, q1, q2⟩
  · refine .inl ⟨q0, q1, ?_⟩
    rw [manS_jour]
    unfold putD
    rw [journal_snoc]
    exact q2
  · refine .inr ⟨q0, r', q3, q1, ?_⟩
    rw [manS_jour]; exact q2
theorem sync_at (b : List UInt8) (gj : Nat) (m : Mod w w0 (manS mp p jj num many A c k (putD D gj (recsB xs) b) (journal [] (recsB xs ++ [b])).length G)) (hnum : num < 4294967296)
    (hg : mget D.now (mname num) = some gj) (hf : fget D.files gj = some ⟨journal [] (recsB xs), (journal [] (recsB xs)).length⟩) :
    Calls Tryz.prog 34 #[ptr jj] w fun e w' => e = .returned (.int .i64 0) ∧ Mod w' w0 (manS mp p jj num many A c k (sureD D gj (recsB xs ++ [b])) (journal [] (recsB xs ++ [b])).length G) := by
  have hs : (mname num).size ≤ 9223372036854775807 := by have := name_small hnum; omega
  rw [manS_jour] at m
  refine (jsync_some jj p (putD D gj (recsB xs) b) (mname num) w w0 _ _ m hs (ok_name hnum) gj ⟨journal [] (recsB xs ++ [b]), (journal [] (recsB xs)).length⟩ hg (fget_fset_same _ _ _ _ hf)).mono fun e w' ⟨q1, q2⟩ => ⟨q1, ?_⟩
  rw [manS_jour]
  have e2 : ({ putD D gj (recsB xs) b with files := fset (putD D gj (recsB xs) b).files gj ⟨journal [] (recsB xs ++ [b]), (journal [] (recsB xs ++ [b])).length⟩ } : DiskSt) = sureD D gj (recsB xs ++ [b]) := by
    unfold putD sureD
    simp only [fset_fset]
  rw [← e2]
  exact q2
theorem does_at (en : Nat) (L : EditL) (x : EditV) (k' : MKnow) (m : Mod w w0 (manS mp p jj num many A c k D en G)) (r : ReadsEdit G L x) (hd : doK k x = some k') (hlen : k.files.length ≤ 100000000) :
    Calls Tryz.prog 27 #[ptr mp, .agg (editCells L x)] w fun e w' => e = .returned (.int .i64 0) ∧ ∃ A' c', k'.files.length ≤ c' ∧ Mod w' w0 (manS mp p jj num many A' c' k' D en G) := by
  rw [manS_mf] at m
  have := mDoes_spec mp p (ptr jj) num many A c k L x w w0 _ m (r.lift inferInstance) hlen
  rw [hd] at this
  refine this.mono fun e w' ⟨h1, A', c', h2, h3⟩ => ⟨h1, A', c', h2, ?_⟩
  rw [manS_mf]; exact h3
end
end Go.Proofs.YtmhlebpchllpbaaGreatDoor
namespace Go.Proofs.YtmhlebpchllpbaaGreatDoor
open Go.RowKit Go.Sl
attribute [local go_sem] cell_of cellAt_of frozen_of zero_names
/-- May an edit be added, on a roomy disk? -/
def GoodAdd (D : DiskSt) (k : MKnow) (xs : List EditV) (x : EditV) : Prop := fineF x.added = true ∧ (editB x).length ≤ 32768 ∧ (∃ k', doK k x = some k') ∧ Roomy D xs x ∧ k.files.length ≤ 30
def AddOut (mp p num : Nat) (k : MKnow) (D : DiskSt) (xs : List EditV) (x : EditV) (w0 : World) (F : Asn) (e : Ending) (w' : World) : Prop :=
  ∃ (r : Int) (D' : DiskSt) (num' : Nat) (xs' : List EditV) (k' : MKnow) (jj' : Nat) (A' : Option Addr) (c' : Nat), e = .returned (.int .i64 r) ∧ MInv D' num' xs' k' ∧ D'.size = D.size ∧ num' ≤ num + 2 ∧
    ((r = 0 ∧ doK k x = some k') ∨ (r ≠ 0 ∧ k' = k ∧ ¬ GoodAdd D k xs x ∧ (fineF x.added = true → (editB x).length ≤ 32768 → doK k x = none → r = 1))) ∧ k'.files.length ≤ c' ∧ Mod w' w0 (manS mp p jj' num' xs'.length A' c' k' D' (journal [] (recsB xs')).length F)
section
variable (mp p jj num : Nat) (A : Option Addr) (c : Nat) (k : MKnow) (D : DiskSt) (xs : List EditV) (L : EditL) (x : EditV) (w w0 : World) (F : Asn)
  (m : Mod w w0 (manS mp p jj num xs.length A c k D (journal [] (recsB xs)).length F)) (h : MInv D num xs k) (r : ReadsEdit F L x) (hlen : k.files.length + x.added.length ≤ 1100000) (hcap : k.files.length ≤ c)
include m h r hcap
set_option maxRecDepth 8000 in
set_option maxHeartbeats 8000000 in
theorem mAdd_form (hf : fineF x.added = false) : Calls Tryz.prog 9 #[ptr mp, .agg (editCells L x)] w (AddOut mp p num k D xs x w0 F) := by
  obtain ⟨S0, hS0⟩ : ∃ S0, S0 = manS mp p jj num xs.length A c k D (journal [] (recsB xs)).length F := ⟨_, rfl⟩
  have HP := Lib.hid (fun (u : World) (S : Asn) (mu : Mod u w0 S) (s : Sub S S0) => ePut_spec L x u w0 S mu ((r.lift (by rw [hS0]; infer_instance : Sub S0 F)).lift s))
  have hst : Has S0 mp (.cells #[ptr p, ptr jj, .int .u32 (num : Int), .int .i64 (xs.length : Int), .slice A k.files.length k.files.length, .slice none 0 0, .slice none 0 0, .int .u32 (k.journal : Int), .int .u32 (k.next : Int), .int .u64 (k.seq : Int), .bool true] 59 (0, 0)) := by rw [hS0]; unfold manS mfA MKnow.nums; infer_instance
  rw [← hS0] at m
  have HS0 := Lib.hid hS0
  have hP2 : ∀ S e w', PutSays x S w0 e w' → e = .returned (.tuple #[.slice none 0 0, .int .i64 1]) ∧ Mod w' w0 S := fun S e w' h => by
    rcases h with ⟨_, h⟩ | ⟨h, _⟩
    · exact h
    · rw [hf] at h; cases h
  have HP2 := Lib.hid hP2
  clear hS0 hP2
  have HOUT : Hid (∀ u, Mod u w0 S0 → AddOut mp p num k D xs x w0 F (.returned (.int .i64 1)) u) := fun u mu =>
    ⟨1, D, num, xs, k, jj, A, c, rfl, h, rfl, by omega, .inr ⟨by decide, rfl, fun hg => (by rw [hg.1] at hf; cases hf), fun hh => (by rw [hh] at hf; cases hf)⟩, hcap, by rw [← HS0.out]; exact mu⟩
  clear h r hf
  obtain ⟨aA, aC, rA, rC⟩ := L
  obtain ⟨fa, rm, jn, nx, sq⟩ := x
  show Calls Tryz.prog _ #[_, .agg #[.slice aA fa.length aC, .slice rA rm.length rC, .int .u32 (jn : Int), .int .u32 (nx : Int), .int .u64 (sq : Int)]] _ _
  go_enter Tryz.func9, Tryz.ntmps9
  go_wp2_with (go_at_call 30; refine (HP.out _ _ inferInstance inferInstance).mono ?_; intro e w1 hsay; obtain ⟨rfl, m1⟩ := HP2.out _ _ _ hsay; clear hsay)
  go_ret
  exact HOUT.out _ (Mod.sub S0 (m := m1))
set_option maxRecDepth 8000 in
set_option maxHeartbeats 8000000 in
theorem mAdd_long (hf : fineF x.added = true) (hlong : 32768 < (editB x).length) : Calls Tryz.prog 9 #[ptr mp, .agg (editCells L x)] w (AddOut mp p num k D xs x w0 F) := by
  obtain ⟨S0, hS0⟩ : ∃ S0, S0 = manS mp p jj num xs.length A c k D (journal [] (recsB xs)).length F := ⟨_, rfl⟩
  have HP := Lib.hid (fun (u : World) (S : Asn) (mu : Mod u w0 S) (s : Sub S S0) => ePut_spec L x u w0 S mu ((r.lift (by rw [hS0]; infer_instance : Sub S0 F)).lift s))
  have hst : Has S0 mp (.cells #[ptr p, ptr jj, .int .u32 (num : Int), .int .i64 (xs.length : Int), .slice A k.files.length k.files.length, .slice none 0 0, .slice none 0 0, .int .u32 (k.journal : Int), .int .u32 (k.next : Int), .int .u64 (k.seq : Int), .bool true] 59 (0, 0)) := by rw [hS0]; unfold manS mfA MKnow.nums; infer_instance
  rw [← hS0] at m
  have HS0 := Lib.hid hS0
  obtain ⟨z, hz⟩ : ∃ z, (editB x).length = z := ⟨_, rfl⟩
  have hP2 : ∀ S e w', PutSays x S w0 e w' → ∃ A c, e = .returned (.tuple #[.slice A z c, .int .i64 0]) ∧ Mod w' w0 (rowA 5 1 (.slice A z c) z (u8s (editB x)) * S) := fun S e w' h => by
    rcases h with ⟨h, _⟩ | ⟨_, h⟩
    · rw [hf] at h; cases h
    · rw [hz] at h; exact h
  have HP2 := Lib.hid hP2
  clear hS0 hP2
  have HOUT : Hid (∀ u, Mod u w0 S0 → AddOut mp p num k D xs x w0 F (.returned (.int .i64 3)) u) := fun u mu =>
    ⟨3, D, num, xs, k, jj, A, c, rfl, h, rfl, by omega, .inr ⟨by decide, rfl, fun hg => (by have := hg.2.1; omega), fun _ hh => absurd hh (by omega)⟩, hcap, by rw [← HS0.out]; exact mu⟩
  have hzz : (32768 : Int) < (z : Int) := by omega
  clear h r hlong hz hf
  obtain ⟨aA, aC, rA, rC⟩ := L
  obtain ⟨fa, rm, jn, nx, sq⟩ := x
  show Calls Tryz.prog _ #[_, .agg #[.slice aA fa.length aC, .slice rA rm.length rC, .int .u32 (jn : Int), .int .u32 (nx : Int), .int .u64 (sq : Int)]] _ _
  go_enter Tryz.func9, Tryz.ntmps9
  go_wp2_with (go_at_call 30; refine (HP.out _ _ inferInstance inferInstance).mono ?_; intro e w1 hsay; obtain ⟨A1, c1, rfl, m1⟩ := HP2.out _ _ _ hsay; clear hsay)
  go_ret
  exact HOUT.out _ (Mod.sub S0 (m := m1))
include hlen in
set_option maxRecDepth 8000 in
set_option maxHeartbeats 16000000 in
theorem mAdd_no (hf : fineF x.added = true) (hlong : (editB x).length ≤ 32768) (hno : doK k x = none) : Calls Tryz.prog 9 #[ptr mp, .agg (editCells L x)] w (AddOut mp p num k D xs x w0 F) := by
  obtain ⟨S0, hS0⟩ : ∃ S0, S0 = manS mp p jj num xs.length A c k D (journal [] (recsB xs)).length F := ⟨_, rfl⟩
  have HP := Lib.hid (fun (u : World) (S : Asn) (mu : Mod u w0 S) (s : Sub S S0) => ePut_spec L x u w0 S mu ((r.lift (by rw [hS0]; infer_instance : Sub S0 F)).lift s))
  have hst : Has S0 mp (.cells #[ptr p, ptr jj, .int .u32 (num : Int), .int .i64 (xs.length : Int), .slice A k.files.length k.files.length, .slice none 0 0, .slice none 0 0, .int .u32 (k.journal : Int), .int .u32 (k.next : Int), .int .u64 (k.seq : Int), .bool true] 59 (0, 0)) := by rw [hS0]; unfold manS mfA MKnow.nums; infer_instance
  have rk : ReadsFiles S0 A k.files.length k.files := (kf_reads A c k.files).lift (by rw [hS0]; unfold manS; infer_instance)
  have hsF : Sub S0 F := by rw [hS0]; infer_instance
  rw [← hS0] at m
  have HS0 := Lib.hid hS0
  obtain ⟨z, hz⟩ : ∃ z, (editB x).length = z := ⟨_, rfl⟩
  have hP2 : ∀ S e w', PutSays x S w0 e w' → ∃ A c, e = .returned (.tuple #[.slice A z c, .int .i64 0]) ∧ Mod w' w0 (rowA 5 1 (.slice A z c) z (u8s (editB x)) * S) := fun S e w' h => by
    rcases h with ⟨h, _⟩ | ⟨_, h⟩
    · rw [hf] at h; cases h
    · rw [hz] at h; exact h
  have HP2 := Lib.hid hP2
  clear hS0 hP2
  have HOUT : Hid (∀ u, Mod u w0 S0 → AddOut mp p num k D xs x w0 F (.returned (.int .i64 1)) u) := fun u mu =>
    ⟨1, D, num, xs, k, jj, A, c, rfl, h, rfl, by omega, .inr ⟨by decide, rfl, fun hg => (by obtain ⟨_, _, ⟨k', hk'⟩, _⟩ := hg; rw [hno] at hk'; cases hk'), fun _ _ _ => rfl⟩, hcap, by rw [← HS0.out]; exact mu⟩
  have hzz : ¬ (32768 : Int) < (z : Int) := by omega
  obtain ⟨aA, aC, rA, rC⟩ := L
  obtain ⟨fa, rm, jn, nx, sq⟩ := x
  have hl1 : k.files.length ≤ 100000000 := by omega
  have HD := Lib.hid (fun (u : World) (S : Asn) (mu : Mod u w0 S) (s : Sub S S0) => eDo_spec A k.files.length k.files.length k.files aA fa.length aC rA rm.length rC fa rm jn nx sq u w0 S mu (rk.lift s) hl1 ((r.added.lift hsF).lift s) r.lenA ((r.removed.lift hsF).lift s) r.lenR)
  have hdo : doE k.files ⟨fa, rm, jn, nx, sq⟩ = none := by
    unfold doK at hno
    exact Option.map_eq_none_iff.1 hno
  rw [hdo] at HD
  clear h r hlen hlong hz rk hsF hdo hno hf hl1
  show Calls Tryz.prog _ #[_, .agg #[.slice aA fa.length aC, .slice rA rm.length rC, .int .u32 (jn : Int), .int .u32 (nx : Int), .int .u64 (sq : Int)]] _ _
  go_enter Tryz.func9, Tryz.ntmps9
  go_wp2_with (go_at_call 30; refine (HP.out _ _ inferInstance inferInstance).mono ?_; intro e w1 hsay; obtain ⟨A1, c1, rfl, m1⟩ := HP2.out _ _ _ hsay; clear hsay)
  go_region_with (go_at_call 31; refine (HD.out _ _ inferInstance inferInstance).mono ?_; rintro e w2 ⟨rfl, m2⟩)
  all_goals (go_wp2_with fail)
  all_goals go_ret
  all_goals exact HOUT.out _ (Mod.sub S0 (m := m2))
end
end Go.Proofs.YtmhlebpchllpbaaGreatDoor
namespace Go.Proofs.YtmhlebpchllpbaaGreatDoor
open Go.RowKit Go.Sl
attribute [local go_sem] cell_of cellAt_of frozen_of zero_names
theorem journal_count : ∀ (l : List (List UInt8)) (a : List UInt8), a.length + l.length ≤ (journal a l).length
  | [], a => by simp [journal]
  | r :: l, a => by
    rw [journal_cons]
    have h1 := journal_count l (a ++ writ a.length true r)
    have h2 := writ_pos a.length true r
    rw [List.length_append] at h1
    rw [List.length_cons]
    omega
theorem Mod.weak {w w0 : World} {X G F : Asn} (m : Mod w w0 (X * G)) (s : Sub G F) : Mod w w0 (X * F) := ⟨m.os, m.tape, m.output, by
  have h := m.says
  rw [sep_assoc] at h ⊢
  obtain ⟨a, b, h1, h2, h3, h4⟩ := h
  exact ⟨a, b, h1, h2, h3, s.sub _ h4⟩⟩
theorem manS_weak {mp p jj num many : Nat} {A : Option Addr} {c : Nat} {k : MKnow} {D : DiskSt} {en : Nat} {w w0 : World} {G F : Asn} (m : Mod w w0 (manS mp p jj num many A c k D en G)) (s : Sub G F) : Mod w w0 (manS mp p jj num many A c k D en F) := by
  have e : ∀ G, manS mp p jj num many A c k D en G = (diskA p D * (mfA mp p (ptr jj) num many (.slice A k.files.length k.files.length) k.nums * (jourA jj p (mname num) en * kfA A c k.files))) * G := fun G => by unfold manS; ac_rfl
  rw [e] at m ⊢
  exact Mod.weak m s
section
variable (mp p jj num : Nat) (A : Option Addr) (c : Nat) (k k' : MKnow) (D : DiskSt) (xs : List EditV) (x : EditV) (w w0 : World) (G : Asn)
/-- Ahead of the journal's Add. -/
def MidA (num : Nat) (k : MKnow) (D : DiskSt) (xs : List EditV) (x : EditV) (D1 : DiskSt) (num1 : Nat) (xs1 : List EditV) : Prop :=
  MInv D1 num1 xs1 k ∧ D1.size = D.size ∧ num1 ≤ num + 1 ∧ (GoodAdd D k xs x → xs1.length ≤ 16 ∧ ((journal [] (recsB xs)).length ≤ 20000 → (journal [] (recsB xs1)).length ≤ 20000))
/-- Behind it. -/
def MidB (num : Nat) (k : MKnow) (D : DiskSt) (xs : List EditV) (x : EditV) (r : Int) (D1 : DiskSt) (num1 : Nat) (xs1 : List EditV) (D2 : DiskSt) (en : Nat) : Prop :=
  MInv D1 num1 xs1 k ∧ D1.size = D.size ∧ num1 ≤ num + 2 ∧ ∃ gj, mget D1.now (mname num1) = some gj ∧ fget D1.files gj = some ⟨journal [] (recsB xs1), (journal [] (recsB xs1)).length⟩ ∧
    ((r = 0 ∧ D2 = putD D1 gj (recsB xs1) (editB x) ∧ en = (journal [] (recsB xs1 ++ [editB x])).length) ∨ (r ≠ 0 ∧ D2 = D1 ∧ en = (journal [] (recsB xs1)).length ∧ ¬ GoodAdd D k xs x))
theorem midA_add {D1 : DiskSt} {num1 : Nat} {xs1 : List EditV} {jj1 : Nat} (hA : MInv D1 num1 xs1 k ∧ D1.size = D.size ∧ num1 ≤ num + 2 ∧ (GoodAdd D k xs x → xs1.length ≤ 16 ∧ ((journal [] (recsB xs)).length ≤ 20000 → (journal [] (recsB xs1)).length ≤ 20000))) (hn1 : num1 < 4294967296) (B : Option Addr) (cb : Nat) (r : Reads G B (editB x).length (u8s (editB x))) (hc : (editB x).length ≤ cb)
    (m : Mod w w0 (manS mp p jj1 num1 xs1.length A c k D1 (journal [] (recsB xs1)).length G)) :
    Calls Tryz.prog 33 #[ptr jj1, .slice B (editB x).length cb] w fun e w' => ∃ (r : Int) (D2 : DiskSt) (en : Nat), e = .returned (.int .i64 r) ∧ MidB num k D xs x r D1 num1 xs1 D2 en ∧ Mod w' w0 (manS mp p jj1 num1 xs1.length A c k D2 en G) := by
  obtain ⟨h1, h2, h3, h4⟩ := hA
  obtain ⟨gm, gj, a1, a2, a3, a4, a5, a6⟩ := h1.disk.ex
  have hok := okOf (F := mfA mp p (ptr jj1) num1 xs1.length (.slice A k.files.length k.files.length) k.nums * (jourA jj1 p (mname num1) (journal [] (recsB xs1)).length * (kfA A c k.files * G))) m ⟨rfl⟩
  refine (add_at mp p jj1 num1 xs1.length A c k D1 xs1 w w0 G (editB x) B cb gj m hn1 r hc a2 a4).mono fun e w' hb => ?_
  rcases hb with ⟨_, q1, q2⟩ | ⟨q0, r', q3, q1, q2⟩
  · exact ⟨0, _, _, q1, ⟨h1, h2, h3, gj, a2, a4, .inl ⟨rfl, rfl, rfl⟩⟩, q2⟩
  · refine ⟨r', _, _, q1, ⟨h1, h2, h3, gj, a2, a4, .inr ⟨by omega, rfl, rfl, fun hg => q0 ?_⟩⟩, q2⟩
    exact h1.fits hok hg.2.2.2.1 h2 (h4 hg).2 hn1 (h4 hg).1 hg.2.1
theorem manS_many {mp p jj num many : Nat} {A : Option Addr} {c : Nat} {k : MKnow} {D : DiskSt} {en : Nat} {w w0 : World} {G : Asn} (many' : Nat) (m : Mod w w0 (manS mp p jj num many A c k D en G)) :
    Mod (w.setCell ⟨mp, 3, none⟩ (.int .i64 (many' : Int))) w0 (manS mp p jj num many' A c k D en G) := by
  rw [manS_mf] at m ⊢
  unfold mfA at m
  exact Mod.setCells (m := m) (g := mp) (i := 3) (.int .i64 (many' : Int)) (t := ⟨rfl⟩)
end
section
variable (mp p jj num : Nat) (A : Option Addr) (c : Nat) (k k' : MKnow) (D : DiskSt) (xs : List EditV) (L : EditL) (x : EditV) (w w0 : World) (F : Asn)
  (m : Mod w w0 (manS mp p jj num xs.length A c k D (journal [] (recsB xs)).length F)) (h : MInv D num xs k) (r : ReadsEdit F L x) (tab : TabIn F) (hnum : num + 2 < 4294967296) (hlen : k.files.length + x.added.length ≤ 1100000) (hcap : k.files.length ≤ c)
include m h r hnum hlen hcap tab
set_option maxRecDepth 8000 in
set_option maxHeartbeats 16000000 in
theorem mAdd_yes (hf : fineF x.added = true) (hlong : (editB x).length ≤ 32768) (hyes : doK k x = some k') : Calls Tryz.prog 9 #[ptr mp, .agg (editCells L x)] w (AddOut mp p num k D xs x w0 F) := by
  obtain ⟨S0, hS0⟩ : ∃ S0, S0 = manS mp p jj num xs.length A c k D (journal [] (recsB xs)).length F := ⟨_, rfl⟩
  have HP := Lib.hid (fun (u : World) (S : Asn) (mu : Mod u w0 S) (s : Sub S S0) => ePut_spec L x u w0 S mu ((r.lift (by rw [hS0]; infer_instance : Sub S0 F)).lift s))
  have hst : Has S0 mp (.cells #[ptr p, ptr jj, .int .u32 (num : Int), .int .i64 (xs.length : Int), .slice A k.files.length k.files.length, .slice none 0 0, .slice none 0 0, .int .u32 (k.journal : Int), .int .u32 (k.next : Int), .int .u64 (k.seq : Int), .bool true] 59 (0, 0)) := by rw [hS0]; unfold manS mfA MKnow.nums; infer_instance
  have rk : ReadsFiles S0 A k.files.length k.files := (kf_reads A c k.files).lift (by rw [hS0]; unfold manS; infer_instance)
  have hsF : Sub S0 F := by rw [hS0]; infer_instance
  rw [← hS0] at m
  have HS0 := Lib.hid hS0
  obtain ⟨z, hz⟩ : ∃ z, (editB x).length = z := ⟨_, rfl⟩
  have hP2 : ∀ S e w', PutSays x S w0 e w' → ∃ A c, e = .returned (.tuple #[.slice A z c, .int .i64 0]) ∧ Mod w' w0 (rowA 5 1 (.slice A z c) z (u8s (editB x)) * S) := fun S e w' h => by
    rcases h with ⟨h, _⟩ | ⟨_, h⟩
    · rw [hf] at h; cases h
    · rw [hz] at h; exact h
  have HP2 := Lib.hid hP2
  clear hS0 hP2
  have hzz : ¬ (32768 : Int) < (z : Int) := by omega
  have HDS := Lib.hid (fun (mp p jj num many : Nat) (A : Option Addr) (c : Nat) (D : DiskSt) (w : World) (G : Asn) (en : Nat) (m : Mod w w0 (manS mp p jj num many A c k D en G)) (s : Sub G F) (hl : k.files.length ≤ 100000000) => does_at mp p jj num many A c k D w w0 G en L x k' m (r.lift s) hyes hl)
  have hEO : EditOk x := ⟨hf, r.nums, r.nums2, by have := r.lenA; omega, by have := r.lenR; omega, r.journal, r.next, r.seq⟩
  obtain ⟨aA, aC, rA, rC⟩ := L
  have hl1 : k.files.length ≤ 100000000 := by omega
  have HD := Lib.hid (fun (u : World) (S : Asn) (mu : Mod u w0 S) (s : Sub S S0) => eDo_spec A k.files.length k.files.length k.files aA x.added.length aC rA x.removed.length rC x.added x.removed x.journal x.next x.seq u w0 S mu (rk.lift s) hl1 ((r.added.lift hsF).lift s) r.lenA ((r.removed.lift hsF).lift s) r.lenR)
  have hdo : doE k.files ⟨x.added, x.removed, x.journal, x.next, x.seq⟩ = some k'.files := by
    unfold doK at hyes
    obtain ⟨l, h1, rfl⟩ := Option.map_eq_some_iff.1 hyes
    exact h1
  rw [hdo] at HD
  have HALL : Hid (MInv D num xs k ∧ EditOk x ∧ doK k x = some k' ∧ (editB x).length ≤ 32768 ∧ TabIn F ∧ (editB x).length = z ∧ k.files.length + x.added.length ≤ 1100000 ∧ num + 2 < 4294967296 ∧ k.files.length ≤ c) := ⟨h, hEO, hyes, hlong, tab, hz, hlen, hnum, hcap⟩
  clear h r hlen hlong hz rk hsF hdo hyes hf hEO tab
  have qn : ∀ (w : World) (a : Option Addr) (n c n' c' : Nat), (binOp .neq 73 (.slice a n c) (.slice none n' c')).run Tryz.prog w = .ok (.bool (!a.isNone)) w := fun w a n c n' c' => run_neq_slice_nil_any w _ _ a n c n' c' Tryz.underlying73
  have qe : ∀ (w : World) (a : Option Addr) (n c n' c' : Nat), (binOp .eql 73 (.slice a n c) (.slice none n' c')).run Tryz.prog w = .ok (.bool a.isNone) w := fun w a n c n' c' => Lib.run_eql_slice_nil w _ _ a n c n' c' Tryz.underlying73
  show Calls Tryz.prog _ #[_, .agg #[.slice aA x.added.length aC, .slice rA x.removed.length rC, .int .u32 (x.journal : Int), .int .u32 (x.next : Int), .int .u64 (x.seq : Int)]] _ _
  go_enter Tryz.func9, Tryz.ntmps9
  go_wp2_with (go_at_call 30; refine (HP.out _ _ inferInstance inferInstance).mono ?_; intro e w1 hsay; obtain ⟨B, cb, rfl, m1⟩ := HP2.out _ _ _ hsay; clear hsay)
  go_cut [6, 7] from 30 (fun _ ev wx => ev = .int .i64 0 ∧ Mod wx w0 (rowA 5 1 (.slice B z cb) z (u8s (editB x)) * (blk w.heap.size (.cells #[.slice aA x.added.length aC, .slice rA x.removed.length rC, .int .u32 (x.journal : Int), .int .u32 (x.next : Int), .int .u64 (x.seq : Int)] 39 (0, 0)) * S0)))
  case first =>
    go_region_with (go_at_call 31; refine (HD.out _ _ inferInstance inferInstance).mono ?_; rintro e w2 ⟨A2, c2, rfl, _, m2⟩)
    all_goals (go_wp2_with fail)
    all_goals go_meet
    all_goals exact ⟨rfl, Mod.drop (m := m2)⟩
  case rest =>
    obtain ⟨rfl, m3⟩ := hcut
    clear HD HP HP2 m1 m
    obtain ⟨G0, hG0⟩ : ∃ G0, G0 = rowA 5 1 (.slice B z cb) z (u8s (editB x)) * (blk w.heap.size (.cells #[.slice aA x.added.length aC, .slice rA x.removed.length rC, .int .u32 (x.journal : Int), .int .u32 (x.next : Int), .int .u64 (x.seq : Int)] 39 (0, 0)) * F) := ⟨_, rfl⟩
    have m4 : Mod wc w0 (manS mp p jj num xs.length A c k D (journal [] (recsB xs)).length G0) := Mod.to (m := m3) (by rw [hG0, HS0.out]; unfold manS; ac_rfl)
    have hX : Has G0 w.heap.size (.cells #[.slice aA x.added.length aC, .slice rA x.removed.length rC, .int .u32 (x.journal : Int), .int .u32 (x.next : Int), .int .u64 (x.seq : Int)] 39 (0, 0)) := by rw [hG0]; infer_instance
    have rB : Reads G0 B (editB x).length (u8s (editB x)) := by rw [hG0, HALL.out.2.2.2.2.2.1]; infer_instance
    have hzc : (editB x).length ≤ cb := by rw [HALL.out.2.2.2.2.2.1]; exact row_le (m := m3)
    have sG : Sub G0 F := by rw [hG0]; infer_instance
    have tG : TabIn G0 := HALL.out.2.2.2.2.1.lift sG
    have hzx : z = (editB x).length := HALL.out.2.2.2.2.2.1.symm
    have RB := Lib.hid rB
    have TG := Lib.hid tG
    have hl2 : k.files.length ≤ 1100000 := by have := HALL.out.2.2.2.2.2.2.1; omega
    have hnum := HALL.out.2.2.2.2.2.2.2.1
    clear m3 HS0 hst hG0 rB tG
    generalize w.heap.size = bx at *
    subst hzx
    have m4' := m4
    unfold manS mfA at m4'
    go_upto_if 46 with fail
    go_cut [8] from 46 (fun _ wx => ∃ (D1 : DiskSt) (num1 jj1 : Nat) (xs1 : List EditV), Hid (MidA num k D xs x D1 num1 xs1) ∧ Mod wx w0 (manS mp p jj1 num1 xs1.length A c k D1 (journal [] (recsB xs1)).length G0))
    case first =>
      by_cases hm : 16 ≤ xs.length
      · have hmi : (16 : Int) ≤ (xs.length : Int) := by omega
        have hmd : decide ((16 : Int) ≤ (xs.length : Int)) = true := decide_eq_true hmi
        have HW := Lib.hid (whole_at mp p jj num xs.length A c k D wc w0 G0 _ m4 HALL.out.1.know hl2)
        go_wp2_with (go_at_call 32; refine HW.out.mono ?_; rintro e w5 ⟨g, R, rfl, rR, m5⟩)
        refine (begin_at mp p jj num A c k D xs w5 w0 G0 xs.length R g m5 rfl rR TG.out HALL.out.1 (by omega) hl2).mono ?_
        rintro e w6 ⟨e0, D1, jj1, num1, xs1, rfl, hb, m6⟩
        have HB := Lib.hid hb
        clear hb
        go_wp2_with fail
        go_meet
        refine ⟨D1, num1, jj1, xs1, ⟨HB.out.1, HB.out.2.1, HB.out.2.2.1, fun hg => ?_⟩, m6⟩
        rcases HB.out.2.2.2 with ⟨_, rfl⟩ | ⟨_, _, hnf⟩
        · exact ⟨Nat.le_of_ble_eq_true rfl, fun _ => by have := whole_jour HALL.out.1.know hg.2.2.2.2; show (journal [] [editB k.whole]).length ≤ 20000; omega⟩
        · exact absurd (HALL.out.1.fine (okOf (F := mfA mp p (ptr jj) num xs.length (.slice A k.files.length k.files.length) k.nums * (jourA jj p (mname num) (journal [] (recsB xs)).length * (kfA A c k.files * G0))) m4 ⟨rfl⟩) hg.2.2.2.1 (by omega) hg.2.2.2.2) hnf
      · have hmi : ¬ (16 : Int) ≤ (xs.length : Int) := by omega
        have hmd : decide ((16 : Int) ≤ (xs.length : Int)) = false := decide_eq_false hmi
        go_wp2_with fail
        go_meet
        exact ⟨D, num, jj, xs, ⟨HALL.out.1, rfl, Nat.le_succ _, fun _ => ⟨by omega, fun h => h⟩⟩, m4⟩
    case rest =>
      obtain ⟨D1, num1, jj1, xs1, HM, m7⟩ := hcut
      have hn1 : num1 ≤ num + 1 := HM.out.2.2.1
      clear m4 m4'
      have m7' := m7
      unfold manS mfA at m7'
      go_wp2_with fail
      refine (midA_add mp p num A c k D xs x _ w0 G0 ⟨HM.out.1, HM.out.2.1, by omega, HM.out.2.2.2⟩ (by omega) B cb RB.out hzc m7).mono ?_
      rintro e w8 ⟨r, D2, en, rfl, hB, m8⟩
      have HB := Lib.hid hB
      clear m7 m7' hB
      have m8' := m8
      unfold manS mfA at m8'
      have hng : r ≠ 0 → ¬ GoodAdd D k xs x := fun hr => by
        obtain ⟨_, _, _, gj, _, _, q | q⟩ := HB.out
        · exact absurd q.1 hr
        · exact q.2.2.2
      go_upto_if 61 with fail
      go_cut [9] from 61 (fun _ wx => ∃ (D2 : DiskSt) (num2 jj2 : Nat) (xs2 : List EditV) (D3 : DiskSt) (en3 : Nat), Hid (MidB num k D xs x 0 D2 num2 xs2 D3 en3) ∧ Mod wx w0 (manS mp p jj2 num2 xs2.length A c k D3 en3 G0))
      case first =>
        by_cases hr : r = 0
        · subst hr
          go_wp2_with fail
          go_meet
          exact ⟨D1, num1, jj1, xs1, D2, en, HB.out, m8⟩
        · have b0 : (r == 0) = false := beq_eq_false_iff_ne.2 hr
          have hng := hng hr
          obtain ⟨D4, h4, m9⟩ : ∃ D4, D4 = D1 ∧ Mod w8 w0 (manS mp p jj1 num1 xs1.length A c k D4 (journal [] (recsB xs1)).length G0) := by
            obtain ⟨_, _, _, gj, _, _, q | q⟩ := HB.out
            · exact absurd q.1 hr
            · obtain ⟨_, q1, q2, _⟩ := q
              exact ⟨D1, rfl, by rw [q1, q2] at m8; exact m8⟩
          subst h4
          clear HB m8 m8'
          have m9' := m9
          unfold manS mfA at m9'
          have HW := Lib.hid (whole_at mp p jj1 num1 xs1.length A c k D4 w8 w0 G0 _ m9 HALL.out.1.know hl2)
          go_wp2_with (go_at_call 32; refine HW.out.mono ?_; rintro e w5 ⟨g, R, rfl, rR, m5⟩)
          refine (begin_at mp p jj1 num1 A c k D4 xs1 w5 w0 G0 xs1.length R g m5 rfl rR TG.out HM.out.1 (by omega) hl2).mono ?_
          rintro e w6 ⟨e0, D5, jj5, num5, xs5, rfl, hb, m6⟩
          have HB5 := Lib.hid hb
          clear hb m5 HW m9 m9'
          have HAO : Hid (∀ u D' num' xs' jj', Mod u w0 (manS mp p jj' num' xs'.length A c k D' (journal [] (recsB xs')).length G0) → MInv D' num' xs' k → D'.size = D.size → num' ≤ num + 2 → AddOut mp p num k D xs x w0 F (.returned (.int .i64 6)) u) := fun u D' num' xs' jj' mu hi hs hn =>
            ⟨6, D', num', xs', k, jj', A, c, rfl, hi, hs, hn, .inr ⟨by decide, rfl, hng, fun _ _ hh => (by rw [HALL.out.2.2.1] at hh; cases hh)⟩, HALL.out.2.2.2.2.2.2.2.2, manS_weak mu sG⟩
          have hs5 : D5.size = D.size := HB5.out.2.1.trans HM.out.2.1
          have hn5 : num5 ≤ num + 2 := by have := HB5.out.2.2.1; omega
          by_cases he0 : e0 = 0
          · subst he0
            have m6' := m6
            unfold manS mfA at m6'
            go_wp2_with fail
            refine (midA_add mp p num A c k D xs x _ w0 G0 ⟨HB5.out.1, hs5, hn5, fun hg => absurd hg hng⟩ (by omega) B cb RB.out hzc m6).mono ?_
            rintro e w10 ⟨r2, D6, en6, rfl, hB6, m10⟩
            have HB6 := Lib.hid hB6
            clear hB6 m6 m6'
            by_cases hr2 : r2 = 0
            · subst hr2
              go_wp2_with fail
              go_meet
              exact ⟨D5, num5, jj5, xs5, D6, en6, HB6.out, m10⟩
            · have b2 : (r2 == 0) = false := beq_eq_false_iff_ne.2 hr2
              obtain ⟨D7, h7, m11⟩ : ∃ D7, D7 = D5 ∧ Mod w10 w0 (manS mp p jj5 num5 xs5.length A c k D7 (journal [] (recsB xs5)).length G0) := by
                obtain ⟨_, _, _, gj, _, _, q | q⟩ := HB6.out
                · exact absurd q.1 hr2
                · obtain ⟨_, q1, q2, _⟩ := q
                  exact ⟨D5, rfl, by rw [q1, q2] at m10; exact m10⟩
              subst h7
              clear m10
              go_wp2_with fail
              go_ret
              exact HAO.out _ _ _ _ _ m11 HB5.out.1 hs5 hn5
          · have b2 : (e0 == 0) = false := beq_eq_false_iff_ne.2 he0
            go_wp2_with fail
            go_ret
            exact HAO.out _ _ _ _ _ m6 HB5.out.1 hs5 hn5
      case rest =>
        obtain ⟨D3, num3, jj3, xs3, D4, en4, HB3, m12⟩ := hcut
        clear m8 m8' HB
        obtain ⟨i1, i2, i3, gj, i4, i5, ⟨_, rfl, rfl⟩ | ⟨q, _⟩⟩ := HB3.out
        · have hok4 := okOf (F := mfA mp p (ptr jj3) num3 xs3.length (.slice A k.files.length k.files.length) k.nums * (jourA jj3 p (mname num3) (journal [] (recsB xs3 ++ [editB x])).length * (kfA A c k.files * G0))) m12 ⟨rfl⟩
          have hinj : (D3.now.map (·.2)).Nodup := hok4.inj
          have hxl : (xs3.length : Int) < 2000000 := by
            have h1 := hok4.len _ (mem_of_fget _ _ _ (fget_fset_same D3.files gj _ ⟨journal [] (recsB xs3 ++ [editB x]), (journal [] (recsB xs3)).length⟩ i5))
            have h2 := journal_count (recsB xs3 ++ [editB x]) []
            simp only [List.length_append, List.length_nil, List.length_singleton, recsB, List.length_map] at h2
            have h3 : (journal [] (recsB xs3 ++ [editB x])).length ≤ 1048576 := h1
            simp only [recsB] at h3
            omega
          have HI := Lib.hid (i1.added hinj HALL.out.2.1 HALL.out.2.2.1 HALL.out.2.2.2.1 i4 i5)
          have HSY := Lib.hid (sync_at mp p jj3 num3 xs3.length A c k D3 xs3 wc w0 G0 (editB x) gj m12 (by omega) i4 i5)
          have m12' := m12
          unfold manS mfA at m12'
          clear hinj i4 i5 hok4
          go_wp2_with (go_at_call 34; refine HSY.out.mono ?_; rintro e w13 ⟨rfl, m13⟩; (have m13' := m13; unfold manS mfA at m13'; clear m12 m12'))
          have m14 := manS_many (xs3.length + 1) m13
          have ee : ((xs3.length + 1 : Nat) : Int) = (xs3.length : Int) + 1 := by omega
          rw [ee] at m14
          have HDO := Lib.hid (HDS.out mp p jj3 num3 (xs3.length + 1) A c _ _ G0 _ m14 sG (by omega))
          clear m13 m13'
          have m14' := m14
          unfold manS mfA at m14'
          clear m14
          refine HDO.out.mono ?_
          rintro e w15 ⟨rfl, A', c', hc', m15⟩
          go_wp2_with fail
          go_ret
          refine ⟨0, _, num3, xs3 ++ [x], k', jj3, A', c', rfl, HI.out, i2, i3, .inl ⟨rfl, HALL.out.2.2.1⟩, hc', ?_⟩
          have e1 : recsB (xs3 ++ [x]) = recsB xs3 ++ [editB x] := by simp [recsB]
          have e2 : (xs3 ++ [x]).length = xs3.length + 1 := by simp
          rw [e1, e2]
          exact manS_weak m15 sG
        · exact absurd rfl q
/-- Add, whatever the edit. -/
theorem mAdd_spec : Calls Tryz.prog 9 #[ptr mp, .agg (editCells L x)] w (AddOut mp p num k D xs x w0 F) := by
  cases hf : fineF x.added with
  | false => exact mAdd_form mp p jj num A c k D xs L x w w0 F m h r hcap hf
  | true =>
    rcases Nat.lt_or_ge 32768 (editB x).length with hl | hl
    · exact mAdd_long mp p jj num A c k D xs L x w w0 F m h r hcap hf hl
    · cases hd : doK k x with
      | none => exact mAdd_no mp p jj num A c k D xs L x w w0 F m h r hlen hcap hf hl hd
      | some k' => exact mAdd_yes mp p jj num A c k k' D xs L x w w0 F m h r tab hnum hlen hcap hf hl hd
end
end Go.Proofs.YtmhlebpchllpbaaGreatDoor
