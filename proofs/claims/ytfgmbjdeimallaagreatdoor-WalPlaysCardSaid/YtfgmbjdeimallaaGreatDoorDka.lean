/- The disk: List. -/
import Derived.Test.YtfgmbjdeimallaaGreatDoorDkY
import Derived.Test.YtfgmbjdeimallaaGreatDoorIter
import Derived.Sort.KeysCollected
import Derived.StringKeys
import Derived.TacticsIn

namespace Go.Proofs.YtfgmbjdeimallaaGreatDoor
open Go.RowKit Go.Lib Go.Maps Go.Sort Go.Shelf


/-- how an element reads, where nothing is asked of it -/
def RT : Value → Option (DataW Unit × List MemPlace) := fun _ => some (.nil, [])

theorem insert_perm {H : Type} (x : Lit × DataW H) : ∀ l : List (Lit × DataW H), (DataW.insert x l).Perm (x :: l)
  | [] => List.Perm.refl _
  | y :: r => by
    unfold DataW.insert
    split
    · exact List.Perm.refl _
    · exact ((insert_perm x r).cons y).trans (List.Perm.swap x y r)
theorem sorted_perm {H : Type} : ∀ l : List (Lit × DataW H), (l.foldr DataW.insert []).Perm l
  | [] => List.Perm.refl _
  | x :: l => (insert_perm x _).trans ((sorted_perm l).cons x)

theorem map_keys {w : World} {mb : Nat} {fs : List (List UInt8 × Value)} (hM : MapAt w mb fs) (hn : ∀ f ∈ fs, f.1.length ≤ 1000) (hl : fs.length ≤ 64) :
    ∃ D : DataW Unit, w.ownsMap Tryz.prog 9 RT mb 64 D ∧ (strKeys D).Perm (fs.map (·.1)) ∧ Maps.size D ≤ 64 := by
  obtain ⟨es, clock, h1, h2, h3⟩ := hM
  have hsz : es.size = fs.length := by simpa using congrArg List.length h3
  have hkey : ∀ x ∈ es.toList, ∃ f ∈ fs, x.key = .string ⟨f.1.toArray⟩ := fun x hx => by
    have : (x.key, x.val) ∈ fs.map kvp := by rw [← h3]; exact List.mem_map.2 ⟨x, hx, rfl⟩
    obtain ⟨f, hf, he⟩ := List.mem_map.1 this
    simp only [kvp, Prod.mk.injEq] at he
    exact ⟨f, hf, he.1.symm⟩
  have hrd : ∀ x ∈ es.toList, ∀ s : List UInt8, x.key = .string ⟨s.toArray⟩ → s.length ≤ 1000 → WideElems.rd Tryz.prog 9 RT x = some (.string s, .nil) := fun x _ s he hs => by
    have hk := WideMaps.keyOf_string_mk (P := Tryz.prog) Tryz.underlying9 (s := ⟨s.toArray⟩) (by simp [ByteArray.size]; unfold maxLen; omega)
    unfold WideElems.rd
    rw [he, hk]
    rfl
  have hfit : WideElems.Fit Tryz.prog 9 RT es clock := ⟨by unfold maxLen; omega, h2, fun x hx => by
    obtain ⟨f, hf, he⟩ := hkey x hx
    exact ⟨_, hrd x hx f.1 he (hn f hf)⟩⟩
  refine ⟨_, ⟨es, clock, h1, hfit, by omega, rfl⟩, ?_, ?_⟩
  · have hp := (sorted_perm (es.toList.map (WideElems.rg Tryz.prog 9 RT))).map (fun p => strOf p.1)
    refine hp.trans ?_
    rw [List.map_map]
    have e : es.toList.map ((fun p : Lit × DataW Unit => strOf p.1) ∘ WideElems.rg Tryz.prog 9 RT) = fs.map (·.1) := by
      have h4 : es.toList.map (fun x => x.key) = fs.map (fun f => Value.string ⟨f.1.toArray⟩) := by
        have := congrArg (List.map Prod.fst) h3
        simpa [kvp, Function.comp_def] using this
      have go : ∀ (l : List MapEntry) (g : List (List UInt8 × Value)), (∀ x ∈ l, x ∈ es.toList) → (∀ f ∈ g, f.1.length ≤ 1000) → l.map (fun x => x.key) = g.map (fun f => Value.string ⟨f.1.toArray⟩) → l.map ((fun p : Lit × DataW Unit => strOf p.1) ∘ WideElems.rg Tryz.prog 9 RT) = g.map (·.1) := by
        intro l
        induction l with
        | nil => intro g _ _ h; cases g with
          | nil => rfl
          | cons f g => simp at h
        | cons x l ih =>
          intro g hx hg h
          cases g with
          | nil => simp at h
          | cons f g =>
            simp only [List.map_cons, List.cons.injEq] at h ⊢
            refine ⟨?_, ih g (fun y hy => hx y (.tail _ hy)) (fun y hy => hg y (.tail _ hy)) h.2⟩
            simp only [Function.comp, WideElems.rg]
            rw [hrd x (hx x (.head _)) f.1 h.1 (hg f (.head _))]
            rfl
      exact go _ _ (fun x hx => hx) hn h4
    rw [e]
  · show ((es.toList.map (WideElems.rg Tryz.prog 9 RT)).foldr DataW.insert []).length ≤ 64
    rw [(sorted_perm _).length_eq]
    simp
    omega

section
variable {w : World} {L : List Nat} {db : Nat} {d : DSt}
set_option maxHeartbeats 2000000 in
theorem dlist (h : Disk w L db d) : Calls Tryz.prog 41 #[.pointer (some ⟨db, 0, none⟩)] w fun e w' => ∃ ao c, e = .returned (.slice ao d.names.length c) ∧ Sl w' 1 ao d.names.length c (d.names.map encStr) ∧ (∀ ad, ao = some ad → w.heap.size ≤ ad.block) ∧ Keeps [] w w' := by
  obtain ⟨mb, fl, h⟩ := h
  have hfl : d.fs.length = fl.length := by rw [h.fs, fils_length]
  obtain ⟨D, hown, hperm, hsz⟩ := map_keys h.files.map (fun f hf => by
    obtain ⟨g, hg, rfl⟩ := List.mem_map.1 hf
    have := h.ok.name (g.1, g.2.toFil) (by rw [h.fs]; exact List.mem_map.2 ⟨g, hg, rfl⟩)
    simp only at this ⊢
    omega) (by rw [ptrs_length, ← hfl]; exact h.ok.few)
  have hpn : (ptrs fl).map (·.1) = d.fs.map (·.1) := by rw [h.fs]; simp [ptrs, fils, Function.comp_def]
  rw [hpn] at hperm
  have hc := h.blk.cell
  have hl := h.blk.lt
  refine (callsIn_wide (n := 6)).1 ?_
  have hfK : Fence.wide.fn 66 := trivial
  have hfS : Fence.wide.fn 65 := trivial
  refine callsIn_of_wp Tryz.func41 rfl trivial ?_ rfl
  simp only [Tryz.ntmps41, List.size_toArray, List.length_cons, List.length_nil, Nat.reduceAdd, Nat.reduceSub, Array.replicate_succ, Array.replicate_zero, List.push_toArray, List.append_toArray, List.nil_append, List.cons_append]
  gi_wp2_with (first
    | (gi_at_call 66; refine (Tryz.maps_Keys_66 _ _).mono ?_; rintro e w' ⟨rfl, rfl⟩)
    | (gi_at_call 65; refine (Tryz.slices_Sorted_keys_65_66 mb 64 D RT w hown (by unfold maxLen; omega) (by omega)).mono ?_; rintro e w' ⟨v, ss, rfl, hS, hrow, hnil, hb⟩))
  go_ret
  have hss : ss.mergeSort leB = d.names := mergeSort_of_perm (hS.trans hperm)
  have hlen : ss.length = d.names.length := by rw [← hss, List.length_mergeSort]
  rw [show ss.mergeSort (fun x y => decide (x ≤ y)) = d.names from hss, hlen] at hrow
  obtain ⟨ao, c, rfl, hSl, hb2⟩ := own_sl hrow (by
    intro u hu
    obtain ⟨x, _, rfl⟩ := List.mem_map.1 hu
    rfl)
  refine ⟨ao, c, rfl, hSl, fun ad e => by have := (hb2 ad e).1; simp at this; omega, ?_⟩
  exact Keeps.of_below (((Below.refl _ w).alloc (Nat.le_refl _) _).trans (hb.mono (by simp)))
end
end Go.Proofs.YtfgmbjdeimallaaGreatDoor
