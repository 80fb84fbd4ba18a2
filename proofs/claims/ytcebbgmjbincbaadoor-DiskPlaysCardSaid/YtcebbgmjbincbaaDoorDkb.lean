/- A crash of the disk on plain data. -/
import Derived.Test.YtcebbgmjbincbaaDoorDka
import Derived.Test.YtcebbgmjbincbaaDoorDk9

namespace Go.Proofs.YtcebbgmjbincbaaDoor
open Go.RowKit Go.Lib


section
variable {α β : Type}
theorem mget_map2 (g : List UInt8 → α → β) (n : List UInt8) : ∀ fs : List (List UInt8 × α), mget n (fs.map fun f => (f.1, g f.1 f.2)) = (mget n fs).map (g n)
  | [] => rfl
  | f :: r => by
    by_cases e : f.1 = n
    · subst e; simp [mget]
    · simp [mget, e, mget_map2 g n r]
theorem mput_map2 (g : List UInt8 → α → β) (n : List UInt8) (v : β) : ∀ fs : List (List UInt8 × α), (fs.map (·.1)).Nodup → n ∈ fs.map (·.1) → mput n v (fs.map fun f => (f.1, g f.1 f.2)) = fs.map fun f => (f.1, if f.1 = n then v else g f.1 f.2)
  | [], _, h => by simp at h
  | f :: r, hn, h => by
    simp only [List.map_cons, List.nodup_cons] at hn
    by_cases e : f.1 = n
    · subst e
      simp only [List.map_cons, mput, if_true, List.cons.injEq, true_and]
      refine List.map_congr_left fun x hx => ?_
      rw [if_neg (fun e : x.1 = f.1 => hn.1 (by rw [← e]; exact List.mem_map.2 ⟨x, hx, rfl⟩))]
    · have h' : n ∈ r.map (·.1) := by
        simp only [List.map_cons, List.mem_cons] at h
        exact h.resolve_left (fun e' => e e'.symm)
      simp only [List.map_cons, mput, if_neg e]
      rw [mput_map2 g n v r hn.2 h']
end
theorem feet_eq {mb : Nat} {n : List UInt8} {x x' : FlM} (hfb : x'.fb = x.fb) (hao : x'.ao = x.ao) : ∀ {fl : List (List UInt8 × FlM)}, mget n fl = some x → feet mb (mput n x' fl) = feet mb fl := by
  have hf : x'.feet = x.feet := by simp [FlM.feet, hfb, hao]
  intro fl h
  have go : ∀ fl : List (List UInt8 × FlM), mget n fl = some x → (mput n x' fl).flatMap (fun f => f.2.feet) = fl.flatMap (fun f => f.2.feet) := by
    intro fl
    induction fl with
    | nil => intro h; simp [mget] at h
    | cons f r ih =>
      intro h
      unfold mget at h
      by_cases e : f.1 = n
      · rw [if_pos e] at h
        obtain rfl := Option.some.inj h
        simp [mput, e, hf]
      · rw [if_neg e] at h
        simp [mput, e, ih h]
  simp [feet, go fl h]

section
variable (d : DSt) (keep : List Int)
theorem DSt.names_perm : d.names.Perm (d.fs.map (·.1)) := List.mergeSort_perm _ _
/-- the first i files, in the names' order, have fallen -/
def DSt.crashI (i : Nat) : DSt := { d with fs := d.fs.map fun f => (f.1, (fun n x => if d.names.idxOf n < i then crashF keep (d.names.idxOf n) x else x) f.1 f.2) }
theorem DSt.crashI_zero : d.crashI keep 0 = d := by
  simp [DSt.crashI]
variable {d keep}
theorem DSt.crashI_get {i : Nat} {n : List UInt8} (hi : d.names[i]? = some n) (hn : (d.fs.map (·.1)).Nodup) : mget n (d.crashI keep i).fs = mget n d.fs := by
  have hnd : d.names.Nodup := (d.names_perm.nodup_iff).2 hn
  have hidx : d.names.idxOf n = i := by
    obtain ⟨hl, he⟩ := List.getElem?_eq_some_iff.1 hi
    rw [← he]
    exact hnd.idxOf_getElem i hl
  unfold DSt.crashI
  simp only
  rw [mget_map2 (fun n x => if d.names.idxOf n < i then crashF keep (d.names.idxOf n) x else x)]
  cases mget n d.fs with
  | none => rfl
  | some f => simp [hidx]
theorem DSt.crashI_succ {i : Nat} {n : List UInt8} {f : Fil} (hi : d.names[i]? = some n) (hn : (d.fs.map (·.1)).Nodup) (hf : mget n d.fs = some f) : (d.crashI keep (i + 1)).fs = mput n (crashF keep i f) (d.crashI keep i).fs := by
  have hnd : d.names.Nodup := (d.names_perm.nodup_iff).2 hn
  have hidx : d.names.idxOf n = i := by
    obtain ⟨hl, he⟩ := List.getElem?_eq_some_iff.1 hi
    rw [← he]
    exact hnd.idxOf_getElem i hl
  unfold DSt.crashI
  simp only
  rw [mput_map2 (fun n x => if d.names.idxOf n < i then crashF keep (d.names.idxOf n) x else x) n _ d.fs hn (mget_key hf)]
  refine List.map_congr_left fun x hx => ?_
  by_cases e : x.1 = n
  · have hx2 : x.2 = f := by
      have := mget_of_mem hn (show (n, x.2) ∈ d.fs by rw [← e]; exact hx)
      rw [hf] at this
      exact (Option.some.inj this).symm
    rw [if_pos e, e, hidx, if_pos (by omega), hx2]
  · rw [if_neg e]
    have hne : d.names.idxOf x.1 ≠ i := fun h => by
      apply e
      have hm : x.1 ∈ d.names := d.names_perm.mem_iff.2 (List.mem_map.2 ⟨x, hx, rfl⟩)
      have hlt := List.idxOf_lt_length_of_mem hm
      have h1 : d.names[d.names.idxOf x.1]'hlt = x.1 := List.getElem_idxOf hlt
      obtain ⟨hl, he⟩ := List.getElem?_eq_some_iff.1 hi
      rw [← he, ← h1]
      congr 1
    by_cases hlt : d.names.idxOf x.1 < i
    · rw [if_pos hlt, if_pos (by omega)]
    · rw [if_neg hlt, if_neg (by omega)]
theorem DSt.crashI_all : { d.crashI keep d.names.length with halt := -1, off := false } = d.crash keep := by
  unfold DSt.crashI DSt.crash
  simp only [DSt.mk.injEq, and_true]
  refine List.map_congr_left fun x hx => ?_
  rw [if_pos]
  exact List.idxOf_lt_length_of_mem (d.names_perm.mem_iff.2 (List.mem_map.2 ⟨x, hx, rfl⟩))
theorem crashF_le (i : Nat) (f : Fil) (h : f.sure ≤ f.b.length) : (crashF keep i f).sure ≤ f.b.length := by
  unfold crashF
  simp only
  split
  · simpa using h
  · rename_i k _
    have h2 : (0 : Int) ≤ max k 0 := Int.le_max_right _ _
    show f.sure + (min (max k 0) ((f.b.length - f.sure : Nat) : Int)).toNat ≤ f.b.length
    have : min (max k 0) ((f.b.length - f.sure : Nat) : Int) ≤ ((f.b.length - f.sure : Nat) : Int) := Int.min_le_right _ _
    omega
theorem crashF_b (i : Nat) (f : Fil) : (crashF keep i f).b = f.b.take (crashF keep i f).sure := rfl
end

theorem run_lookup1_kv {P : Program} {t k e : TypeId} {w : World} {b : Nat} {fs : List (List UInt8 × Value)} (h : MapAt w b fs) (ht : P.underlying t = some (.map k e)) (hk : P.underlying k = some .string) {v : Value} (s : List UInt8) (hv : mget s fs = some v) :
    (Instr.lookup t (.map (some b)) (.string ⟨s.toArray⟩) false).run P w = .ok v w := by
  obtain ⟨es, clock, h1, h2, h3⟩ := h
  have hf := findNow_kv (s := s) es.toList fs 0 h3
  have hks : MapKept.IsKey .string (.string ⟨s.toArray⟩) := trivial
  cases hm : mfind s fs 0 with
  | none =>
    obtain ⟨_, _, _, hg⟩ := mfind_none fs 0 hm
    rw [hv] at hg
    cases hg
  | some p =>
    obtain ⟨j, u⟩ := p
    obtain ⟨_, _, _, _, _, hg⟩ := mfind_some fs 0 j u hm
    rw [hm] at hf
    rw [hv] at hg
    obtain rfl := Option.some.inj hg
    simp [Instr.lookup, run_underlying ht, MapKept.run_getObj_map h1, MapKept.run_checkKey hk hks, MapKept.run_findKey hk hf, Result.andThen]
end Go.Proofs.YtcebbgmjbincbaaDoor
