/- The walk of FilesBytes: it returns true and changes nothing that was there; no condition. -/
import Derived.Test.YtabekogiaobnfaaDoorLeft
import Derived.Test.YtabekogiaobnfaaDoorArgs
import Derived.Deep.QuietTactic
import Derived.BigQuiet
import Derived.Deep.LoopGhost
namespace Go.Proofs.YtabekogiaobnfaaDoor
open Go.RowKit Go.Sl
attribute [local go_sem] cell_of frozen_of zero_names conv_sb conv_bs conv_nil
theorem ne_ab : (⟨#[97]⟩ : ByteArray) ≠ ⟨#[98]⟩ := by decide
/-- The texts that go to one of two files, in a row. -/
def wentTo (to : Bool) (l : List (ByteArray × Bool)) : ByteArray := l.foldl (fun t q => if q.2 = to then t ++ q.1 else t) ⟨#[]⟩
theorem wentTo_snoc (to : Bool) (l : List (ByteArray × Bool)) (q : ByteArray × Bool) : wentTo to (l ++ [q]) = if q.2 = to then wentTo to l ++ q.1 else wentTo to l := by simp [wentTo]
theorem wentTo_succ (to : Bool) (xs : List ByteArray) (bs : List Bool) (k : Nat) (h1 : k < xs.length) (h2 : k < bs.length) : wentTo to ((xs.zip bs).take (k + 1)) = if bs[k] = to then wentTo to ((xs.zip bs).take k) ++ xs[k] else wentTo to ((xs.zip bs).take k) := by
  rw [List.take_succ_eq_append_getElem (by simp; omega), wentTo_snoc, List.getElem_zip]
theorem append_data (a b : ByteArray) : a.data.toList ++ b.data.toList = (a ++ b).data.toList := by rw [ByteArray.data_append, Array.toList_append]
theorem sizes_take_succ' (xs : List ByteArray) (k : Nat) (h : k < xs.length) : sizes (xs.take (k + 1)) = sizes (xs.take k) + xs[k].size := by
  rw [List.take_succ_eq_append_getElem h, sizes_append]; simp [sizes]
theorem sizes_take_le' (xs : List ByteArray) (k : Nat) : sizes (xs.take k) ≤ sizes xs := by
  have := sizes_append (xs.take k) (xs.drop k)
  rw [List.take_append_drop] at this; omega
set_option maxRecDepth 6000 in
set_option maxHeartbeats 4000000 in
theorem filesBytes_run (B1 : Option Addr) (n c1 : Nat) (xs : List ByteArray) (B2 : Option Addr) (n2 c2 : Nat) (bs : List Bool) (k1 k2 : Nat) (w w0 : World) (S : Asn) [m : Mod w w0 S] (r1 : Reads S B1 n (texts xs)) (hl : xs.length = n) (r2 : Reads S B2 n2 (bools bs)) (hl2 : bs.length = n2) (hn : n ≤ 4611686018427387903) (hn2 : n2 ≤ 9223372036854775807) (hxs : ∀ s ∈ xs, s.size ≤ 4611686018427387903) (hk1 : k1 < 65536) (hk2 : k2 < 65536) :
    Calls Tryd.prog 9 #[.slice B1 n c1, .slice B2 n2 c2, .agg #[.int .u16 (k1 : Int), .int .u16 (k2 : Int)]] w fun e w' => e = .returned (.bool true) ∧ Mod w' w0 S := by
  obtain ⟨t1, t2⟩ := textsSize_gt xs n
  have HT := Lib.hid t2
  clear t2
  by_cases hlen : 30 < n
  · go_enter Tryd.func9, Tryd.ntmps9
    go_wp2_with first
      | (go_at_call 33; refine (alive5_spec _ w0 _ inferInstance).mono ?_; rintro e w1 ⟨rfl, _m1⟩)
    go_ret
    exact ⟨rfl, Mod.sub S⟩
  by_cases hnn : n = n2
  case neg =>
    go_enter Tryd.func9, Tryd.ntmps9
    go_wp2_with first
      | (go_at_call 33; refine (alive5_spec _ w0 _ inferInstance).mono ?_; rintro e w1 ⟨rfl, _m1⟩)
    go_ret
    exact ⟨rfl, Mod.sub S⟩
  subst hnn
  by_cases hts : 20000 < textsSize n xs
  · go_enter Tryd.func9, Tryd.ntmps9
    go_wp2_with first
      | (go_at_call 33; refine (alive5_spec _ w0 _ inferInstance).mono ?_; rintro e w1 ⟨rfl, _m1⟩)
      | (go_at_call 34; refine (textsSize_spec B1 n c1 xs _ w0 _ _m1 inferInstance (by omega) (fun s hs => Nat.le_trans (hxs s hs) (by omega))).mono ?_; rintro e w2 ⟨rfl, _m2⟩)
    go_ret
    exact ⟨rfl, Mod.sub S⟩
  · have hsz : n + sizes xs ≤ 20000 := by have := HT.out (by omega); omega
    go_enter Tryd.func9, Tryd.ntmps9
    go_wp2_with first
      | (go_at_call 33; refine (alive5_spec _ w0 _ inferInstance).mono ?_; rintro e w1 ⟨rfl, _m1⟩)
      | (go_at_call 34; refine (textsSize_spec B1 n c1 xs _ w0 _ _m1 inferInstance (by omega) (fun s hs => Nat.le_trans (hxs s hs) (by omega))).mono ?_; rintro e w2 ⟨rfl, _m2⟩)
      | (go_at_call 35; refine (new_ok 30000 _ w0 _ inferInstance (by omega) (by omega)).mono ?_; rintro e w3 ⟨p, rfl, _m3⟩)
    have flag := True.intro
    go_wp2_with first
      | (go_at_call 28; clear flag; refine (create_ok p (newDisk 30000) ⟨#[97]⟩ _ w0 _ _ inferInstance inferInstance (by decide) ok_a rfl (by decide)).mono ?_; rintro e w4 ⟨g, rfl, _, _m4⟩; rw [created_one] at _m4; try simp only [emp_sep] at _m4)
    have flag := True.intro
    go_wp2_with first
      | (go_at_call 28; clear flag; refine (create_ok p (one 30000 ⟨#[97]⟩ g ⟨[], 0⟩ []) ⟨#[98]⟩ _ w0 _ _ inferInstance inferInstance (by decide) ok_b (mget_ne _ ne_ab) (by simp [one])).mono ?_; rintro e w5 ⟨h, rfl, hf, _m5⟩; have hgh := fresh_one hf; clear hf; rw [created_pair ne_ab] at _m5; try simp only [emp_sep] at _m5)
    obtain ⟨G, m6, rG1, rG2, sG, hG⟩ : ∃ G, Mod w5 w0 (diskA p (pair 30000 ⟨#[97]⟩ g ⟨[], 0⟩ ⟨#[98]⟩ h ⟨[], 0⟩ []) * G) ∧ Reads G B1 n (texts xs) ∧ Reads G B2 n (bools bs) ∧ Sub G S ∧ Has G w.heap.size (.cells #[.int .u16 (k1 : Int), .int .u16 (k2 : Int)] 64 (0, 0)) := ⟨_, _m5, inferInstance, inferInstance, inferInstance, inferInstance⟩
    clear _m1 _m2 _m3 _m4 _m5
    go_loopg [9, 10, 11] n (fun gk a b i wr => ∃ (k : Nat) (Ta Tb : ByteArray), k ≤ n ∧ gk = n - k ∧ i = .int .i64 (k : Int) ∧ a = .string Ta ∧ b = .string Tb ∧ Hid (Ta = wentTo false ((xs.zip bs).take k) ∧ Tb = wentTo true ((xs.zip bs).take k)) ∧ Ta.size + Tb.size = sizes (xs.take k) ∧ Mod wr w0 (diskA p (pair 30000 ⟨#[97]⟩ g ⟨Ta.data.toList, 0⟩ ⟨#[98]⟩ h ⟨Tb.data.toList, 0⟩ []) * G))
    case atStart => exact ⟨0, ⟨#[]⟩, ⟨#[]⟩, Nat.zero_le _, rfl, rfl, rfl, rfl, ⟨rfl, rfl⟩, rfl, m6⟩
    case round =>
      obtain ⟨k, Ta, Tb, hkn, hgk, rfl, rfl, rfl, HW, hO, m12⟩ := hrel
      have hOl := sizes_take_le' xs k
      by_cases hlt : k < n
      · obtain ⟨b1, o1, hB1, hc1⟩ := reads_text (B := B1) (n := n) (l := xs) m12 inferInstance (by omega)
        obtain ⟨b2, o2, hB2, hc2⟩ := reads_bool (B := B2) (n := n) (l := bs) m12 inferInstance (by omega)
        subst hB1 hB2
        have hx := hc1 k (by omega)
        have hy := hc2 k (by omega)
        have hki : (k : Int) < (n : Int) := by omega
        have hsucc := sizes_take_succ' xs k (by omega)
        have hOl2 := sizes_take_le' xs (k + 1)
        have W1 := Lib.hid (wentTo_succ false xs bs k (by omega) (by omega))
        have W2 := Lib.hid (wentTo_succ true xs bs k (by omega) (by omega))
        clear hc1 hc2
        generalize xs[k] = x at *
        generalize bs[k] = t at *
        cases t
        · have flag := True.intro
          go_wp2_with first
            | (go_at_call 29; clear flag; refine (append_str p (pair 30000 ⟨#[97]⟩ g ⟨Ta.data.toList, 0⟩ ⟨#[98]⟩ h ⟨Tb.data.toList, 0⟩ []) ⟨#[97]⟩ _ w0 _ _ inferInstance inferInstance (by decide) _ _ x g _ ok_a mget_pair1 (fget_pair1 hgh) (by rw [left_pair hgh]; simp only [size_toList]; omega) (by simp only [size_toList]; omega)).mono ?_; rintro e w13 ⟨rfl, _m13⟩; rw [put_pair1 hgh, append_data] at _m13; try simp only [emp_sep] at _m13)
          go_roundg (n - (k + 1))
          case measure => omega
          case rel => exact ⟨k + 1, Ta ++ x, Tb, by omega, rfl, by go_num, rfl, rfl, ⟨by rw [W1.out, HW.out.1]; rfl, by rw [W2.out, HW.out.2]; rfl⟩, by rw [ByteArray.size_append]; omega, drop_mid _m13⟩
        · have flag := True.intro
          go_wp2_with first
            | (go_at_call 29; clear flag; refine (append_str p (pair 30000 ⟨#[97]⟩ g ⟨Ta.data.toList, 0⟩ ⟨#[98]⟩ h ⟨Tb.data.toList, 0⟩ []) ⟨#[98]⟩ _ w0 _ _ inferInstance inferInstance (by decide) _ _ x h _ ok_b (mget_pair2 ne_ab) fget_pair2 (by rw [left_pair hgh]; simp only [size_toList]; omega) (by simp only [size_toList]; omega)).mono ?_; rintro e w13 ⟨rfl, _m13⟩; rw [put_pair2, append_data] at _m13; try simp only [emp_sep] at _m13)
          go_roundg (n - (k + 1))
          case measure => omega
          case rel => exact ⟨k + 1, Ta, Tb ++ x, by omega, rfl, by go_num, rfl, rfl, ⟨by rw [W1.out, HW.out.1]; rfl, by rw [W2.out, HW.out.2]; rfl⟩, by rw [ByteArray.size_append]; omega, drop_mid _m13⟩
      · clear rG1 rG2
        obtain ⟨at_, hat⟩ : ∃ at_ : Nat, k1 % (Ta.size + 1) = at_ := ⟨_, rfl⟩
        obtain ⟨nn, hnn⟩ : ∃ nn : Nat, k2 % (Ta.size + 3) = nn := ⟨_, rfl⟩
        have hat1 : at_ ≤ Ta.size := by rw [← hat]; have := Nat.mod_lt k1 (show 0 < Ta.size + 1 by omega); omega
        have hnn1 : nn ≤ Ta.size + 2 := by rw [← hnn]; have := Nat.mod_lt k2 (show 0 < Ta.size + 3 by omega); omega
        have hat2 : ((k1 : Int) % ((Ta.size : Int) + 1)) = (at_ : Int) := by rw [← hat]; simp
        have hnn2 : ((k2 : Int) % ((Ta.size : Int) + 3)) = (nn : Int) := by rw [← hnn]; simp
        clear hat hnn
        by_cases hsh : Ta.size < at_ + nn
        · have flag := True.intro
          go_wp2_with first
            | (go_at_call 27; clear flag; refine (read_short p (pair 30000 ⟨#[97]⟩ g ⟨Ta.data.toList, 0⟩ ⟨#[98]⟩ h ⟨Tb.data.toList, 0⟩ []) ⟨#[97]⟩ _ w0 _ _ inferInstance inferInstance (by decide) at_ nn g _ ok_a mget_pair1 (fget_pair1 hgh) (by simp only [size_toList]; omega) (by omega)).mono ?_; rintro e w13 ⟨rfl, _m13⟩)
          have flag := True.intro
          go_wp2_with first
            | (go_at_call 36; clear flag; refine (all_spec p (pair 30000 ⟨#[97]⟩ g ⟨Ta.data.toList, 0⟩ ⟨#[98]⟩ h ⟨Tb.data.toList, 0⟩ []) ⟨#[97]⟩ _ w0 _ _ inferInstance inferInstance (by decide)).mono ?_; rw [allOf_pair1 ok_a hgh]; rintro e w14 ⟨rfl, _m14⟩)
          have flag := True.intro
          go_wp2_with first
            | (go_at_call 36; clear flag; refine (all_spec p (pair 30000 ⟨#[97]⟩ g ⟨Ta.data.toList, 0⟩ ⟨#[98]⟩ h ⟨Tb.data.toList, 0⟩ []) ⟨#[98]⟩ _ w0 _ _ inferInstance inferInstance (by decide)).mono ?_; rw [allOf_pair2 ok_b ne_ab]; rintro e w15 ⟨rfl, _m15⟩)
          have flag := True.intro
          go_wp2_with first
            | (go_at_call 37; clear flag; refine (left_spec p (pair 30000 ⟨#[97]⟩ g ⟨Ta.data.toList, 0⟩ ⟨#[98]⟩ h ⟨Tb.data.toList, 0⟩ []) _ w0 _ _ inferInstance inferInstance).mono ?_; rw [left_pair hgh]; rintro e w16 ⟨rfl, _m16⟩)
          go_ret
          refine ⟨?_, Mod.sub S⟩
          have e : ((30000 - sizes (xs.take k) : Nat) : Int) = 30000 - (Ta.size : Int) - Tb.size := by omega
          simp [e]
        · have flag := True.intro
          go_wp2_with first
            | (go_at_call 27; clear flag; refine (read_ok p (pair 30000 ⟨#[97]⟩ g ⟨Ta.data.toList, 0⟩ ⟨#[98]⟩ h ⟨Tb.data.toList, 0⟩ []) ⟨#[97]⟩ _ w0 _ _ inferInstance inferInstance (by decide) at_ nn g _ ok_a mget_pair1 (fget_pair1 hgh) (by simp only [size_toList]; omega)).mono ?_; rintro e w13 ⟨A', c', rfl, _m13⟩)
          have hsl : (Ta.extract at_ (at_ + nn)).toList = (Ta.data.toList.drop at_).take nn := by rw [ByteArray.toList_eq, ByteArray.data_extract]; simp [List.extract_eq_take_drop]
          go_quiet (fail)
          have flag := True.intro
          go_wp2_with first
            | (go_at_call 36; clear flag; refine (all_spec p (pair 30000 ⟨#[97]⟩ g ⟨Ta.data.toList, 0⟩ ⟨#[98]⟩ h ⟨Tb.data.toList, 0⟩ []) ⟨#[97]⟩ _ w0 _ _ inferInstance inferInstance (by decide)).mono ?_; rw [allOf_pair1 ok_a hgh]; rintro e w14 ⟨rfl, _m14⟩)
          have flag := True.intro
          go_wp2_with first
            | (go_at_call 36; clear flag; refine (all_spec p (pair 30000 ⟨#[97]⟩ g ⟨Ta.data.toList, 0⟩ ⟨#[98]⟩ h ⟨Tb.data.toList, 0⟩ []) ⟨#[98]⟩ _ w0 _ _ inferInstance inferInstance (by decide)).mono ?_; rw [allOf_pair2 ok_b ne_ab]; rintro e w15 ⟨rfl, _m15⟩)
          have flag := True.intro
          go_wp2_with first
            | (go_at_call 37; clear flag; refine (left_spec p (pair 30000 ⟨#[97]⟩ g ⟨Ta.data.toList, 0⟩ ⟨#[98]⟩ h ⟨Tb.data.toList, 0⟩ []) _ w0 _ _ inferInstance inferInstance).mono ?_; rw [left_pair hgh]; rintro e w16 ⟨rfl, _m16⟩)
          go_ret
          refine ⟨?_, Mod.sub S⟩
          have e : ((30000 - sizes (xs.take k) : Nat) : Int) = 30000 - (Ta.size : Int) - Tb.size := by omega
          simp [e]
theorem filesBytes_walk (B1 : Option Addr) (n c1 : Nat) (B2 : Option Addr) (n2 c2 : Nat) (k1 k2 : Nat) (w w0 : World) (S : Asn) [m : Mod w w0 S] (hk : k1 < 65536 ∧ k2 < 65536)
    (hs : (∃ xs, xs.length = n ∧ Reads S B1 n (texts xs) ∧ (∀ s ∈ xs, s.size ≤ reachBytes) ∧ n ≤ 4611686018427387903) ∧ ∃ bs, bs.length = n2 ∧ Reads S B2 n2 (bools bs) ∧ n2 ≤ c2 ∧ c2 ≤ maxLen) :
    Calls Tryd.prog 9 #[.slice B1 n c1, .slice B2 n2 c2, .agg #[.int .u16 (k1 : Int), .int .u16 (k2 : Int)]] w fun e w' => e = .returned (.bool true) ∧ Mod w' w0 S := by
  obtain ⟨⟨xs, hl, hr, hx, hn⟩, bs, hl2, hr2, h1, h2⟩ := hs
  unfold reachBytes at hx
  unfold maxLen at h2
  exact filesBytes_run B1 n c1 xs B2 n2 c2 bs k1 k2 w w0 S hr hl hr2 hl2 hn (by omega) (fun s hs => Nat.le_trans (hx s hs) (by omega)) hk.1 hk.2
end Go.Proofs.YtabekogiaobnfaaDoor
