/- The walk of JournalsNames: it returns true and changes nothing that was there; no condition. -/
import Derived.Test.YtmpgnnjhgjfgaaaDoorAlive6
import Derived.Test.YtmpgnnjhgjfgaaaDoorLeft
namespace Go.Proofs.YtmpgnnjhgjfgaaaDoor
open Go.RowKit Go.Sl
attribute [local go_sem] cell_of frozen_of zero_names conv_const conv_bs conv_nil make_bytes
set_option maxRecDepth 4000 in
set_option maxHeartbeats 4000000 in
theorem journalsNames_run (name : ByteArray) (B1 : Option Addr) (n c1 : Nat) (rec : List UInt8) (w w0 : World) (S : Asn) (m : Mod w w0 S) (r1 : Reads S B1 n (u8s rec)) (hl : rec.length = n) (hc : n ≤ c1) (hs : name.size ≤ 4611686018427387903) :
    Calls Tryd.prog 9 #[.string name, .slice B1 n c1] w fun e w' => e = .returned (.bool true) ∧ Mod w' w0 S := by
  subst hl
  by_cases hbig : (1000 : Int) < (name.size : Int) ∨ (1000 : Int) < (rec.length : Int)
  · go_enter Tryd.func9, Tryd.ntmps9
    go_wp2_with fail
    refine (alive6_spec _ w0 _ m).mono ?_
    rintro e w1 ⟨rfl, m1⟩
    by_cases h1 : (1000 : Int) < (name.size : Int)
    · go_wp2_with fail
      refine (alive6_spec _ w0 _ m1).mono ?_
      rintro e w3 ⟨rfl, m3⟩
      go_wp2_with fail
      go_ret
      exact ⟨rfl, m3⟩
    · have h2 := hbig.resolve_left h1
      clear hbig
      go_wp2_with fail
      refine (alive6_spec _ w0 _ m1).mono ?_
      rintro e w3 ⟨rfl, m3⟩
      go_wp2_with fail
      go_ret
      exact ⟨rfl, m3⟩
  · have h1 : ¬ ((1000 : Int) < (name.size : Int)) := fun h => hbig (.inl h)
    have h2 : ¬ ((1000 : Int) < (rec.length : Int)) := fun h => hbig (.inr h)
    clear hbig
    have hsz : name.size ≤ 9223372036854775807 := by omega
    cases hok : nameOk name with
    | false =>
      have Hok := Lib.hid hok
      clear hok
      go_enter Tryd.func9, Tryd.ntmps9
      go_wp2_with fail
      refine (alive6_spec _ w0 _ m).mono ?_
      rintro e w1 ⟨rfl, m1⟩
      go_wp2_with fail
      refine (new_ok 100000 _ w0 _ m1 (by omega) (by omega)).mono ?_
      rintro e w2 ⟨p, rfl, m2⟩
      go_wp2_with fail
      refine (create_arg p (newDisk 100000) name w2 w0 _ _ m2 inferInstance hsz Hok.out).mono ?_
      rintro e w3 ⟨rfl, m3⟩
      go_wp2_with fail
      refine (jopen_arg p (newDisk 100000) name w3 w0 _ m3 hsz Hok.out).mono ?_
      rintro e w4 ⟨rfl, m4⟩
      go_wp2_with fail
      refine (list_spec p (newDisk 100000) w4 w0 _ _ m4 inferInstance).mono ?_
      rintro e w5 ⟨B, c, rfl, m5⟩
      rw [show (listOf (newDisk 100000)).length = 0 by simp [length_listOf, newDisk]]
      go_wp2_with fail
      go_ret
      exact ⟨rfl, Mod.sub S (m := m5)⟩
    | true =>
      have Hok := Lib.hid hok
      clear hok
      go_enter Tryd.func9, Tryd.ntmps9
      go_wp2_with fail
      refine (alive6_spec _ w0 _ m).mono ?_
      rintro e w1 ⟨rfl, m1⟩
      go_wp2_with fail
      refine (new_ok 100000 _ w0 _ m1 (by omega) (by omega)).mono ?_
      rintro e w2 ⟨p, rfl, m2⟩
      go_wp2_with fail
      refine (create_ok p (newDisk 100000) name w2 w0 _ _ m2 inferInstance hsz Hok.out rfl (by decide)).mono ?_
      rintro e w3 ⟨g0, rfl, _, m3⟩
      rw [created_one] at m3
      go_wp2_with fail
      refine (remove_ok p (one 100000 name g0 ⟨[], 0⟩ []) name w3 w0 _ _ m3 inferInstance hsz g0 Hok.out (mget_one _ _)).mono ?_
      rintro e w4 ⟨rfl, m4⟩
      rw [show ({ one 100000 name g0 ⟨[], 0⟩ [] with now := mdel (one 100000 name g0 ⟨[], 0⟩ []).now name } : DiskSt) = ⟨100000, [], [], [(g0, ⟨[], 0⟩)]⟩ by simp [one, mdel]] at m4
      simp only [emp_sep] at m4
      go_wp2_with fail
      refine (jopen_new p ⟨100000, [], [], [(g0, ⟨[], 0⟩)]⟩ name w4 w0 _ m4 hsz Hok.out rfl (by simp)).mono ?_
      rintro e w5 ⟨g, hgf, j, A, R, rfl, _, m5⟩
      have hgg : g ≠ g0 := fun e => by subst e; simp [fget] at hgf
      rw [show created ⟨100000, [], [], [(g0, ⟨[], 0⟩)]⟩ name g = moved 100000 name g0 ⟨[], 0⟩ g ⟨[], 0⟩ [] by simp [created, mput, moved]] at m5
      go_wp2_with fail
      obtain ⟨G, m6, rG, sG⟩ : ∃ G, Mod w5 w0 (diskA p (moved 100000 name g0 ⟨[], 0⟩ g ⟨[], 0⟩ []) * (jourA j p name 0 * G)) ∧ Reads G B1 rec.length (u8s rec) ∧ Sub G S := ⟨_, m5, reads_lift inferInstance r1, inferInstance⟩
      clear m5 m4 m3 m2 m1 m r1
      have hL := list_spec p (moved 100000 name g0 ⟨[], 0⟩ g ⟨[], 0⟩ []) w5 w0 _ _ m6 inferInstance
      rw [show listOf (moved 100000 name g0 ⟨[], 0⟩ g ⟨[], 0⟩ []) = [name.data.toList] by simp [listOf, moved], texts_enc] at hL
      refine hL.mono ?_
      rintro e w7 ⟨B, c, rfl, m7⟩
      clear hL
      dsimp only [List.length_cons, List.length_nil, Nat.zero_add] at m7 ⊢
      go_wp2_with fail
      refine (sameTexts_spec B (some ⟨w7.heap.size, 0, none⟩) 1 1 c 1 [name] [name] (w7.alloc (.cells #[.string name] 9)) w0 _ inferInstance inferInstance (reads_blk rfl rfl) (by omega) (by omega)).mono ?_
      rw [decide_eq_true rfl]
      rintro e w8 ⟨rfl, m8⟩
      have m9 : Mod w8 w0 (diskA p (moved 100000 name g0 ⟨[], 0⟩ g ⟨[], 0⟩ []) * (jourA j p name 0 * G)) := Mod.drop (m := Mod.drop (m := m8))
      clear m7 m8
      have hw := writ_le 0 true rec
      have HA := add_ok j p (moved 100000 name g0 ⟨[], 0⟩ g ⟨[], 0⟩ []) name w8 w0 G B1 c1 rec g ⟨[], 0⟩ hsz Hok.out (mget_one _ _) (by simp [moved, fget]) m9 rG hc (by omega) (by rw [left_moved]; simp only [List.length_nil]; omega) (by simp only [List.length_nil]; omega)
      go_wp2_with fail
      refine HA.mono ?_
      rintro e w10 ⟨rfl, m10⟩
      obtain ⟨f2, D2, en, m11, hD2⟩ : ∃ (f2 : FileTab) (D2 : DiskSt) (en : Nat), Mod w10 w0 (diskA p D2 * (jourA j p name en * G)) ∧ D2 = ⟨100000, [(name, g)], [], f2⟩ := ⟨_, _, _, m10, rfl⟩
      subst hD2
      clear HA m9 m10 hw
      go_wp2_with fail
      refine (remove_ok p ⟨100000, [(name, g)], [], f2⟩ name w10 w0 _ _ m11 inferInstance hsz g Hok.out (mget_one _ _)).mono ?_
      rintro e w12 ⟨rfl, m12⟩
      rw [show ({ (⟨100000, [(name, g)], [], f2⟩ : DiskSt) with now := mdel (⟨100000, [(name, g)], [], f2⟩ : DiskSt).now name } : DiskSt) = ⟨100000, [], [], f2⟩ by simp [mdel]] at m12
      simp only [emp_sep] at m12
      clear m11
      go_wp2_with fail
      refine (add_none j p ⟨100000, [], [], f2⟩ name w12 w0 G B1 c1 en rec.length m12 hsz (by omega) Hok.out rfl).mono ?_
      rintro e w13 ⟨rfl, m13⟩
      clear m12
      go_wp2_with fail
      refine (jsync_none j p ⟨100000, [], [], f2⟩ name w13 w0 G en m13 hsz Hok.out rfl).mono ?_
      rintro e w14 ⟨rfl, m14⟩
      go_wp2_with fail
      go_ret
      exact ⟨rfl, Mod.sub S (m := Mod.sub G (m := m14))⟩
theorem journalsNames_walk (name : ByteArray) (B1 : Option Addr) (n c1 : Nat) (w w0 : World) (S : Asn) [m : Mod w w0 S] {q : Prop} (_ : q) (hs : name.size ≤ 4611686018427387903 ∧ ∃ xs : List UInt8, xs.length = n ∧ Reads S B1 n (u8s xs) ∧ n ≤ c1) :
    Calls Tryd.prog 9 #[.string name, .slice B1 n c1] w fun e w' => e = .returned (.bool true) ∧ Mod w' w0 S := by
  obtain ⟨h1, xs, h2, h3, h4⟩ := hs
  exact journalsNames_run name B1 n c1 xs w w0 S m h3 h2 h4 h1
end Go.Proofs.YtmpgnnjhgjfgaaaDoor
