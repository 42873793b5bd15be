/- The walk of FilesNames: it returns true and changes nothing that was there; no condition. -/
import Derived.Test.YtabekogiaobnfaaDoorLeft
import Derived.Test.YtabekogiaobnfaaDoorArgs
import Derived.Deep.QuietTactic
import Derived.BigQuiet
import Derived.Deep.LoopGhost
import Derived.Deep.RegionHeld3
namespace Go.Proofs.YtabekogiaobnfaaDoor
open Go.RowKit Go.Sl Go.Maps
attribute [local go_sem] cell_of frozen_of zero_names conv_sb conv_bs
/-- The names that the law draws. -/
def nm (k : Nat) : ByteArray := ⟨#[UInt8.ofNat (97 + k / 10), UInt8.ofNat (48 + k % 10)]⟩
theorem nm_ok : ∀ k, k < 70 → nameOk (nm k) = true := by
  intro k hk; rw [nameOk_eq]; revert k; decide +kernel
theorem nm_inj : ∀ i, i < 70 → ∀ j, j < 70 → nm i = nm j → i = j := by decide +kernel
theorem nm_zz : ∀ k, k < 70 → nm k ≠ ⟨#[122, 122]⟩ := by decide +kernel
theorem ok_zz : nameOk ⟨#[122, 122]⟩ = true := by rw [nameOk_eq]; decide
theorem nm_le : ∀ i, i < 70 → ∀ j, j < 70 → i ≤ j → leB (nm i).data.toList (nm j).data.toList = true := by decide +kernel
/-- A disk's names are just those that are marked. -/
structure Marked (D : DiskSt) (th : List Bool) (many : Nat) : Prop where
  len : th.length = 70
  many : D.now.length = many
  there : ∀ k (_ : k < 70), (mget D.now (nm k)).isSome = th[k]
  only : ∀ q ∈ D.now, ∃ k, k < 70 ∧ q.1 = nm k
theorem mget_put_same {α : Type} {L : List (ByteArray × α)} {s : ByteArray} (h : mget L s = none) (v : α) : mget (mput L s v) s = some v := by
  rw [mput_new h]
  unfold mget at h ⊢
  cases hf : L.find? (fun p => decide (p.1 = s)) with
  | none => rw [List.find?_append, hf]; simp
  | some x => rw [hf] at h; cases h
theorem mget_put_other {α : Type} {L : List (ByteArray × α)} {s t : ByteArray} (h : mget L s = none) (hst : t ≠ s) (v : α) : mget (mput L s v) t = mget L t := by
  rw [mput_new h]
  unfold mget
  rw [List.find?_append]
  simp [Ne.symm hst]
theorem mget_del_same {α : Type} (L : List (ByteArray × α)) (s : ByteArray) : mget (mdel L s) s = none := by
  refine mget_none_of fun hm => ?_
  obtain ⟨q, hq, hqe⟩ := List.mem_map.1 hm
  have := (List.mem_filter.1 hq).2
  simp [hqe] at this
theorem mget_del_other {α : Type} (L : List (ByteArray × α)) {s t : ByteArray} (hst : t ≠ s) : mget (mdel L s) t = mget L t := by
  unfold mget mdel
  congr 1
  induction L with
  | nil => rfl
  | cons q L ih =>
    by_cases hq : q.1 = s
    · rw [List.filter_cons_of_neg (by simp [hq]), List.find?_cons_of_neg (by simpa [hq] using Ne.symm hst), ih]
    · rw [List.filter_cons_of_pos (by simp [hq])]
      by_cases ht : q.1 = t
      · rw [List.find?_cons_of_pos (by simp [ht]), List.find?_cons_of_pos (by simp [ht])]
      · rw [List.find?_cons_of_neg (by simp [ht]), List.find?_cons_of_neg (by simp [ht]), ih]
theorem length_mdel {α : Type} {s : ByteArray} {v : α} : ∀ {L : List (ByteArray × α)}, (L.map (·.1)).Nodup → mget L s = some v → (mdel L s).length + 1 = L.length
  | [], _, h => by cases h
  | q :: L, hk, h => by
    simp only [List.map_cons, List.nodup_cons] at hk
    by_cases hq : q.1 = s
    · have e : mdel L s = L := by
        unfold mdel
        refine List.filter_eq_self.2 fun p hp => ?_
        have : p.1 ≠ s := fun e => hk.1 (by rw [hq, ← e]; exact List.mem_map_of_mem (f := (·.1)) hp)
        simp [this]
      have e2 : mdel (q :: L) s = L := by
        unfold mdel at e ⊢
        rw [List.filter_cons_of_neg (by simp [hq]), e]
      rw [e2]; rfl
    · have h' : mget L s = some v := by
        unfold mget at h ⊢
        rw [List.find?_cons_of_neg (by simp [hq])] at h
        exact h
      have := length_mdel hk.2 h'
      have e2 : mdel (q :: L) s = q :: mdel L s := by unfold mdel; rw [List.filter_cons_of_pos (by simp [hq])]
      rw [e2]; simp only [List.length_cons]; omega
theorem Marked.start (n : Nat) : Marked (newDisk n) (List.replicate 70 false) 0 :=
  ⟨by simp, rfl, fun k hk => by rw [List.getElem_replicate]; rfl, by simp [newDisk]⟩
theorem Marked.made {D : DiskSt} {th : List Bool} {many k g : Nat} (h : Marked D th many) (hk : k < 70) (hg : mget D.now (nm k) = none) : Marked (created D (nm k) g) (th.set k true) (many + 1) := by
  have hput : mput D.now (nm k) g = D.now ++ [(nm k, g)] := mput_new hg g
  refine ⟨by rw [List.length_set, h.len], by show (mput D.now (nm k) g).length = _; rw [hput, List.length_append, h.many]; rfl, fun j hj => ?_, fun q hq => ?_⟩
  · show (mget (mput D.now (nm k) g) (nm j)).isSome = _
    rw [List.getElem_set]
    by_cases e : k = j
    · subst e; rw [mget_put_same hg]; simp
    · rw [mget_put_other hg (fun e2 => e (nm_inj j hj k hk e2).symm), if_neg e]; exact h.there j hj
  · have hq : q ∈ mput D.now (nm k) g := hq
    rw [hput, List.mem_append, List.mem_singleton] at hq
    rcases hq with hq | rfl
    · exact h.only q hq
    · exact ⟨k, hk, rfl⟩
theorem Marked.gone {D : DiskSt} {th : List Bool} {many k g : Nat} (h : Marked D th many) (hok : DiskOk D) (hk : k < 70) (hg : mget D.now (nm k) = some g) : Marked { D with now := mdel D.now (nm k) } (th.set k false) (many - 1) := by
  have hl := length_mdel hok.keys hg
  refine ⟨by rw [List.length_set, h.len], by show (mdel D.now (nm k)).length = _; have := h.many; omega, fun j hj => ?_, fun q hq => h.only q ((mdel_sub _ _).subset hq)⟩
  show (mget (mdel D.now (nm k)) (nm j)).isSome = _
  rw [List.getElem_set]
  by_cases e : k = j
  · subst e; rw [mget_del_same]; simp
  · rw [mget_del_other _ (fun e2 => e (nm_inj j hj k hk e2).symm), if_neg e]; exact h.there j hj
theorem Marked.zz {D : DiskSt} {th : List Bool} {many : Nat} (h : Marked D th many) : mget D.now ⟨#[122, 122]⟩ = none := by
  refine mget_none_of fun hm => ?_
  obtain ⟨q, hq, e⟩ := List.mem_map.1 hm
  obtain ⟨k, hk, e2⟩ := h.only q hq
  exact nm_zz k hk (e2.symm.trans e)
/-- Those of the first k that are marked. -/
def wants (th : List Bool) (k : Nat) : List ByteArray := ((List.range k).filter fun i => th.getD i false).map nm
theorem wants_succ (th : List Bool) (k : Nat) (h : k < th.length) : wants th (k + 1) = wants th k ++ (if th[k] then [nm k] else []) := by
  unfold wants
  rw [List.range_succ, List.filter_append, List.map_append]
  congr 1
  rw [List.filter_cons, List.getD_eq_getElem?_getD, List.getElem?_eq_getElem h]
  cases th[k] <;> rfl
theorem wants_pairwise (th : List Bool) : (wants th 70).Pairwise (fun a b => ∃ i j, i < j ∧ j < 70 ∧ a = nm i ∧ b = nm j) := by
  unfold wants
  rw [List.pairwise_map]
  have h := List.Pairwise.filter (fun i => th.getD i false) (List.pairwise_lt_range (n := 70))
  refine h.imp_of_mem fun {a b} _ hb hab => ⟨a, b, hab, ?_, rfl, rfl⟩
  exact List.mem_range.1 (List.mem_filter.1 hb).1
theorem Marked.list {D : DiskSt} {th : List Bool} {many : Nat} (h : Marked D th many) (hok : DiskOk D) : listOf D = (wants th 70).map (·.data.toList) := by
  have hp : (D.now.map (·.1)).Perm (wants th 70) := by
    refine (List.perm_ext_iff_of_nodup hok.keys ?_).2 fun s => ?_
    · refine (wants_pairwise th).imp fun {a b} ⟨i, j, hij, hj, ha, hb⟩ e => ?_
      rw [ha, hb] at e
      have := nm_inj i (by omega) j hj e
      omega
    · constructor
      · intro hs
        obtain ⟨q, hq, rfl⟩ := List.mem_map.1 hs
        obtain ⟨k, hk, e⟩ := h.only q hq
        have h1 := h.there k hk
        have h2 : mget D.now (nm k) = some q.2 := by rw [← e]; exact mget_mem hok.keys hq
        rw [h2] at h1
        rw [e]
        refine List.mem_map_of_mem (List.mem_filter.2 ⟨List.mem_range.2 hk, ?_⟩)
        rw [List.getD_eq_getElem?_getD, List.getElem?_eq_getElem (by rw [h.len]; exact hk), ← h1]; rfl
      · intro hs
        obtain ⟨k, hk, rfl⟩ := List.mem_map.1 hs
        obtain ⟨hk1, hk2⟩ := List.mem_filter.1 hk
        have hk1 := List.mem_range.1 hk1
        rw [List.getD_eq_getElem?_getD, List.getElem?_eq_getElem (by rw [h.len]; exact hk1)] at hk2
        have h1 := h.there k hk1
        rw [show th[k]'(by rw [h.len]; exact hk1) = true from hk2] at h1
        obtain ⟨g, hg⟩ := Option.isSome_iff_exists.1 h1
        exact List.mem_map_of_mem (f := (·.1)) (mem_of_mget hg)
  have h1 : listOf D = ((wants th 70).map (·.data.toList)).mergeSort leB := by
    unfold listOf
    refine mergeSort_of_perm ?_
    have := hp.map (fun s : ByteArray => s.data.toList)
    rw [List.map_map] at this
    exact this
  rw [h1]
  refine List.mergeSort_of_pairwise ?_
  rw [List.pairwise_map]
  refine (wants_pairwise th).imp fun {a b} ⟨i, j, hij, hj, ha, hb⟩ => ?_
  rw [ha, hb]
  exact nm_le i (by omega) j hj (by omega)
instance rowT_texts : RowT Tryd.prog 63 9 16 := ⟨by kernel_rfl, by kernel_rfl⟩
theorem wants_le (th : List Bool) (k : Nat) : (wants th k).length ≤ k := by
  unfold wants
  rw [List.length_map]
  exact Nat.le_trans (List.length_filter_le _ _) (by simp)
theorem wants_hit {th : List Bool} {k : Nat} (h : k < th.length) (hb : th[k] = true) : wants th (k + 1) = wants th k ++ [nm k] := by rw [wants_succ th k h, hb]; rfl
theorem wants_miss {th : List Bool} {k : Nat} (h : k < th.length) (hb : th[k] = false) : wants th (k + 1) = wants th k := by rw [wants_succ th k h, hb]; simp
theorem enc_texts (l : List ByteArray) : (l.map (fun s : ByteArray => s.data.toList)).map Go.Proofs.encStr = texts l := by
  rw [List.map_map]
  apply List.map_congr_left
  intro s _
  simp [Go.Proofs.encStr]
theorem set_bools (th : List Bool) (k : Nat) (b : Bool) : (bools th).toArray.setIfInBounds k (.bool b) = (bools (th.set k b)).toArray := by simp [bools]
theorem conv_nm (w : World) (g kk : Nat) (hk : kk < 70) [h : HpSize w g] : (convert 22 9 (.slice (some ⟨g, 0, none⟩) 2 2)).run Tryd.prog (w.alloc (.cells #[.int .u8 (97 + (kk : Int) / 10), .int .u8 (48 + (kk : Int) % 10)] 5)) =
    .ok (.string (nm kk)) (w.alloc (.cells #[.int .u8 (97 + (kk : Int) / 10), .int .u8 (48 + (kk : Int) % 10)] 5)) := by
  have m := Mod.start w
  have m1 : Mod (w.alloc (.cells #[.int .u8 (97 + (kk : Int) / 10), .int .u8 (48 + (kk : Int) % 10)] 5)) w (blk g (.cells #[.int .u8 (97 + (kk : Int) / 10), .int .u8 (48 + (kk : Int) % 10)] 5 (0, 0)) * just (hp w)) := Mod.alloc (m := m) (hn := h) _
  have r : Reads (blk g (.cells #[.int .u8 (97 + (kk : Int) / 10), .int .u8 (48 + (kk : Int) % 10)] 5 (0, 0)) * just (hp w)) (some ⟨g, 0, none⟩) 2 (u8s [UInt8.ofNat (97 + kk / 10), UInt8.ofNat (48 + kk % 10)]) := by
    refine reads_blk (cs := #[.int .u8 (97 + (kk : Int) / 10), .int .u8 (48 + (kk : Int) % 10)]) (e := 5) (fr := (0, 0)) ?_ rfl
    simp only [u8s, List.map_cons, List.map_nil, UInt8.toNat_ofNat']
    have e1 : (97 + kk / 10) % 2 ^ 8 = 97 + kk / 10 := by omega
    have e2 : (48 + kk % 10) % 2 ^ 8 = 48 + kk % 10 := by omega
    rw [e1, e2]
    simp
  exact conv_bs (m := m1) (r := r)
attribute [local go_sem] conv_nm
set_option maxRecDepth 6000 in
set_option maxHeartbeats 4000000 in
theorem filesNames_run (B : Option Addr) (n c : Nat) (xs : List UInt8) (w w0 : World) (S : Asn) [m : Mod w w0 S] (r : Reads S B n (u8s xs)) (hl : xs.length = n) (hn : n ≤ 9223372036854775807) :
    Calls Tryd.prog 16 #[.slice B n c] w fun e w' => e = .returned (.bool true) ∧ Mod w' w0 S := by
  by_cases hlen : 250 < n
  · go_enter Tryd.func16, Tryd.ntmps16
    go_wp2_with first
      | (go_at_call 33; refine (alive5_spec _ w0 _ inferInstance).mono ?_; rintro e w1 ⟨rfl, _m1⟩)
    go_ret
    exact ⟨rfl, Mod.sub S⟩
  · go_enter Tryd.func16, Tryd.ntmps16
    go_wp2_with first
      | (go_at_call 33; refine (alive5_spec _ w0 _ inferInstance).mono ?_; rintro e w1 ⟨rfl, _m1⟩)
      | (go_at_call 35; refine (new_ok 100 _ w0 _ inferInstance (by omega) (by omega)).mono ?_; rintro e w3 ⟨p, rfl, _m3⟩)
    obtain ⟨G, m4, rG, sG⟩ : ∃ G, Mod (w3.alloc (.cells Tryd.zeroCells85 85)) w0 (blk w3.heap.size (.cells Tryd.zeroCells85 85 (0, 0)) * (diskA p (newDisk 100) * G)) ∧ Reads G B n (u8s xs) ∧ Sub G S := ⟨_, inferInstance, inferInstance, inferInstance⟩
    clear _m1 _m3
    generalize w3.heap.size = hb at *
    go_loopg [6, 7] n (fun gk mn i wr => ∃ (k many : Nat) (cs : Array Value) (th : List Bool) (D : DiskSt), k ≤ n ∧ gk = n - k ∧ i = .int .i64 (k : Int) ∧ mn = .int .i64 (many : Int) ∧ Hid (cs = (bools th).toArray) ∧ Hid (Marked D th many) ∧ Mod wr w0 (blk hb (.cells cs 85 (0, 0)) * (diskA p D * G)))
    case atStart => exact ⟨0, 0, _, List.replicate 70 false, _, Nat.zero_le _, rfl, rfl, rfl, by show _ = _; kernel_rfl, Marked.start 100, m4⟩
    case round =>
      obtain ⟨k, many, cs, th, D, hkn, hgk, rfl, rfl, Hcs, HM, m5⟩ := hrel
      have hok : DiskOk D := by obtain ⟨rn, rs, hok, _⟩ := disk_open m5 (inferInstance : Take _ (diskA p) D _); exact hok
      have hm64 : many ≤ 64 := by have := hok.many; rw [HM.out.many] at this; exact this
      have Hok := Lib.hid hok
      clear hok
      by_cases hlt : k < n
      · obtain ⟨ad, hB1, hsp, hc⟩ := reads_cell (A := B) (n := n) (xs := u8s xs) m5 inferInstance (by omega)
        obtain ⟨b1, o1, sp1⟩ := ad
        simp only at hsp
        subst hsp
        subst hB1
        have hx := hc k (.int .u8 ((xs[k].toNat : Nat) : Int)) (by simp [u8s, hl, hlt])
        have hki : (k : Int) < (n : Int) := by omega
        have hxk : xs[k].toNat < 256 := xs[k].toNat_lt
        clear hc
        generalize xs[k].toNat = x at *
        obtain ⟨kk, hkk⟩ : ∃ kk, x % 70 = kk := ⟨_, rfl⟩
        have hkk1 : kk < 70 := by omega
        have hkk2 : ((x : Int) % 70) = (kk : Int) := by omega
        clear hkk
        have hth : cs[kk]? = some (.bool (th[kk]'(by rw [HM.out.len]; exact hkk1))) := by rw [Hcs.out]; simp [bools, HM.out.len, hkk1]
        have Hget := Lib.hid (HM.out.there kk hkk1)
        generalize th[kk]'(by rw [HM.out.len]; exact hkk1) = b at *
        cases b
        · have hg : mget D.now (nm kk) = none := by have := Hget.out; cases h : mget D.now (nm kk) with | none => rfl | some g => rw [h] at this; cases this
          by_cases hroom : many < 64
          · have flag := True.intro
            go_wp2_with first
              | (go_at_call 28; clear flag; refine (create_ok p D (nm kk) _ w0 _ _ inferInstance inferInstance (by simp [nm, ByteArray.size]) (nm_ok kk hkk1) hg (by rw [HM.out.many]; exact hroom)).mono ?_; rintro e w6 ⟨g, rfl, hfr, _m6⟩)
            have HM2 := Lib.hid (HM.out.made (g := g) hkk1 hg)
            have flag := True.intro
            go_wp2_with first
              | (go_at_call 30; clear flag; refine (remove_none p (created D (nm kk) g) ⟨#[122, 122]⟩ _ w0 _ _ inferInstance inferInstance (by decide) ok_zz HM2.out.zz).mono ?_; rintro e w7 ⟨rfl, _m7⟩)
            go_roundg (n - (k + 1))
            case measure => omega
            case rel => exact ⟨k + 1, many + 1, _, th.set kk true, created D (nm kk) g, by omega, rfl, by go_num, by go_num, by show _ = _; rw [Hcs.out]; exact set_bools _ _ _, HM2.out, repack (blk hb) (diskA p) (inferInstance : Mod (w7.setCell ⟨hb, kk, none⟩ (.bool true)) w0 _)⟩
          · have flag := True.intro
            go_wp2_with first
              | (go_at_call 28; clear flag; refine (create_full p D (nm kk) _ w0 _ _ inferInstance inferInstance (by simp [nm, ByteArray.size]) (nm_ok kk hkk1) hg (by rw [HM.out.many]; omega)).mono ?_; rintro e w6 ⟨rfl, _m6⟩)
            have flag := True.intro
            go_wp2_with first
              | (go_at_call 30; clear flag; refine (remove_none p D ⟨#[122, 122]⟩ _ w0 _ _ inferInstance inferInstance (by decide) ok_zz HM.out.zz).mono ?_; rintro e w7 ⟨rfl, _m7⟩)
            go_roundg (n - (k + 1))
            case measure => omega
            case rel => exact ⟨k + 1, many, cs, th, D, by omega, rfl, by go_num, rfl, Hcs, HM, repack (blk hb) (diskA p) _m7⟩
        · obtain ⟨g, hg⟩ := Option.isSome_iff_exists.1 Hget.out
          have flag := True.intro
          go_wp2_with first
            | (go_at_call 28; clear flag; refine (create_there p D (nm kk) _ w0 _ _ inferInstance inferInstance (by simp [nm, ByteArray.size]) g (nm_ok kk hkk1) hg).mono ?_; rintro e w6 ⟨rfl, _m6⟩)
          have flag := True.intro
          go_wp2_with first
            | (go_at_call 30; clear flag; refine (remove_ok p D (nm kk) _ w0 _ _ inferInstance inferInstance (by simp [nm, ByteArray.size]) g (nm_ok kk hkk1) hg).mono ?_; rintro e w7 ⟨rfl, _m7⟩)
          have hpos : 0 < many := by rw [← HM.out.many]; exact List.length_pos_of_mem (mem_of_mget hg)
          go_roundg (n - (k + 1))
          case measure => omega
          case rel => exact ⟨k + 1, many - 1, _, th.set kk false, { D with now := mdel D.now (nm kk) }, by omega, rfl, by go_num, by congr 1; omega, by show _ = _; rw [Hcs.out]; exact set_bools _ _ _, HM.out.gone Hok.out hkk1 hg, repack (blk hb) (diskA p) (inferInstance : Mod (w7.setCell ⟨hb, kk, none⟩ (.bool false)) w0 _)⟩
      · clear rG
        go_wp2_with fail
        have HL := Lib.hid (HM.out.list Hok.out)
        have Hlen := HM.out.len
        go_loopg [11, 12] 70 (fun gj wv i wr => ∃ (j : Nat) (A : Option Addr) (cw : Nat), j ≤ 70 ∧ gj = 70 - j ∧ i = .int .i64 (j : Int) ∧ wv = .slice A (wants th j).length cw ∧
          Mod wr w0 (rowA 9 1 (.slice A (wants th j).length cw) (wants th j).length (texts (wants th j)) * (blk hb (.cells cs 85 (0, 0)) * (diskA p D * G))))
        case atStart => exact ⟨0, none, 0, by omega, rfl, rfl, rfl, row_none m5⟩
        case round =>
          obtain ⟨j, A, cw, hj, hgj, rfl, rfl, m6⟩ := hrel
          have hwl := wants_le th j
          by_cases hj2 : j < 70
          · have hth : cs[j]? = some (.bool (th[j]'(by rw [Hlen]; exact hj2))) := by rw [Hcs.out]; simp [bools, Hlen, hj2]
            cases hb2 : th[j]'(by rw [Hlen]; exact hj2) with
            | false =>
              rw [hb2] at hth
              have Hmiss := Lib.hid (wants_miss (by rw [Hlen]; exact hj2) hb2)
              clear hb2
              go_wp2_with fail
              go_roundg (70 - (j + 1))
              case measure => omega
              case rel => exact ⟨j + 1, A, cw, by omega, rfl, by go_num, by rw [Hmiss.out], by rw [Hmiss.out]; exact m6⟩
            | true =>
              rw [hb2] at hth
              have Hhit := Lib.hid (wants_hit (by rw [Hlen]; exact hj2) hb2)
              clear hb2
              go_wp2_with (at_builtin; (refine wpList_append (v := .slice A (wants th j).length cw) (k := 1) (c := 1) (news := [.string (nm j)]) (r := reads_blk rfl rfl) rfl rfl inferInstance rfl rfl (by simp [Value.oneCell']) (by unfold maxLen; omega) (by omega) ?_); intro A' c' w7 _m7)
              go_roundg (70 - (j + 1))
              case measure => omega
              case rel => exact ⟨j + 1, A', c', by omega, rfl, by go_num, by rw [Hhit.out, List.length_append]; rfl, by rw [Hhit.out, List.length_append, texts, List.map_append]; exact repack3 (rowQ 9 1 (.slice A' ((wants th j).length + 1) c')) (blk hb) (diskA p) _m7⟩
          · have hj3 : j = 70 := by omega
            subst hj3
            have flag := True.intro
            go_wp2_with first
              | (go_at_call 40; clear flag; refine (list_spec p D _ w0 _ _ inferInstance inferInstance).mono ?_; rw [HL.out, List.length_map, enc_texts]; rintro e w8 ⟨B1, c1, rfl, _m8⟩)
            have flag := True.intro
            go_wp2_with first
              | (go_at_call 43; clear flag; refine (sameTexts_spec B1 A (wants th 70).length (wants th 70).length c1 cw (wants th 70) (wants th 70) _ w0 _ _m8 inferInstance inferInstance (by omega) (by omega)).mono ?_; rw [decide_eq_true rfl]; rintro e w9 ⟨rfl, _m9⟩)
            go_ret
            exact ⟨rfl, Mod.sub S⟩
theorem filesNames_walk (B : Option Addr) (n c : Nat) (w w0 : World) (S : Asn) [m : Mod w w0 S] (hs : ∃ xs : List UInt8, xs.length = n ∧ Reads S B n (u8s xs) ∧ n ≤ c ∧ c ≤ maxLen) :
    Calls Tryd.prog 16 #[.slice B n c] w fun e w' => e = .returned (.bool true) ∧ Mod w' w0 S := by
  obtain ⟨xs, hl, hr, h1, h2⟩ := hs
  unfold maxLen at h2
  exact filesNames_run B n c xs w w0 S hr hl (by omega)
end Go.Proofs.YtabekogiaobnfaaDoor
