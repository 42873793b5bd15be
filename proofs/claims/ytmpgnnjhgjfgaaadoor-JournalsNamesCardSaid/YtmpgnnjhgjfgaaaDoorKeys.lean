/- A map with text keys in the words of the maps' kit, and the disk's list: plain lemmas. -/
import Derived.Test.YtmpgnnjhgjfgaaaDoorDisk5
import Derived.Sort.KeysCollected
namespace Go.Proofs.YtmpgnnjhgjfgaaaDoor
open Go Go.Sl Go.Maps
theorem owns_smap {P : Program} {k : TypeId} {w w0 : World} {S : Asn} {r : Nat} {L : Pairs} (m : Mod w w0 S) (h : HasMap S r L) (hk : P.underlying k = some .string) (hs : ∀ q ∈ L, q.1.size ≤ maxLen) (hl : L.length ≤ maxLen) :
    ∃ D0 : DataW Unit, w.ownsMap P k (fun _ => some (.nil, [])) r L.length D0 ∧ (strKeys D0).Perm (L.map (·.1.data.toList)) ∧ Maps.size D0 = L.length := by
  obtain ⟨es, clock, hm, hw⟩ := mapBlock (w0 := w0) (S := S) (r := r) (L := L) w
  have hlen : es.size = L.length := by have := congrArg List.length hm.keys; simpa using this
  have hkeys : es.toList.map (·.key) = L.map fun q => Value.string q.1 := by
    have := congrArg (List.map Prod.fst) hm.keys
    simpa [List.map_map, Function.comp_def] using this
  have hrd : ∀ x ∈ es.toList, ∃ q ∈ L, x.key = .string q.1 ∧ WideElems.rd P k (fun _ => some ((.nil : DataW Unit), [])) x = some (.string q.1.data.toList, .nil) := by
    intro x hx
    have h1 : x.key ∈ L.map fun q => Value.string q.1 := by rw [← hkeys]; exact List.mem_map_of_mem hx
    obtain ⟨q, hq, hqk⟩ := List.mem_map.1 h1
    refine ⟨q, hq, hqk.symm, ?_⟩
    have hko : keyOf P k x.key = some (.string q.1.data.toList) := by
      rw [← hqk]; simp [keyOf, hk, mapKey, hs q hq]
    simp [WideElems.rd, hko]
  have hfit : WideElems.Fit P k (fun _ => some ((.nil : DataW Unit), [])) es clock := by
    refine ⟨by omega, ⟨hm.lt, ?_, ?_⟩, fun x hx => let ⟨q, _, _, h⟩ := hrd x hx; ⟨_, h⟩⟩
    · exact List.pairwise_map.2 (hm.born.imp fun h e => by omega)
    · rw [hkeys]
      have := hm.nodup
      have e : (L.map fun q => Value.string q.1) = (L.map (·.1)).map Value.string := by rw [List.map_map]; rfl
      rw [e]
      refine List.pairwise_map.2 (this.imp fun hne heq => hne ?_)
      injection heq
  refine ⟨_, ⟨es, clock, hw, hfit, by omega, rfl⟩, ?_, ?_⟩
  · have hp := WideShapes.sorted_perm (es.toList.map (WideElems.rg P k (fun _ => some ((.nil : DataW Unit), []))))
    refine (hp.map fun p => strOf p.1).trans ?_
    rw [List.map_map]
    have e : es.toList.map ((fun p : Lit × DataW Unit => strOf p.1) ∘ WideElems.rg P k (fun _ => some ((.nil : DataW Unit), []))) = L.map (·.1.data.toList) := by
      have h2 : ∀ x ∈ es.toList, ((fun p : Lit × DataW Unit => strOf p.1) ∘ WideElems.rg P k (fun _ => some ((.nil : DataW Unit), []))) x = (fun v => match v with | .string s => s.data.toList | _ => []) x.key := by
        intro x hx
        obtain ⟨q, hq, hqk, h⟩ := hrd x hx
        simp [Function.comp, WideElems.rg, h, hqk, strOf]
      rw [List.map_congr_left h2]
      have h3 := congrArg (List.map fun v => match v with | Value.string s => s.data.toList | _ => []) hkeys
      rw [List.map_map, List.map_map] at h3
      exact h3
    rw [e]
  · rw [Maps.size_eq]
    have := (WideShapes.sorted_perm (es.toList.map (WideElems.rg P k (fun _ => some ((.nil : DataW Unit), []))))).length_eq
    rw [this]; simp [hlen]
end Go.Proofs.YtmpgnnjhgjfgaaaDoor
