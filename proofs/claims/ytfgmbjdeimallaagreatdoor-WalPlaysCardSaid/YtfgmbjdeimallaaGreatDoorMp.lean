/- Maps from strings, as lists of pairs. -/
import Derived.Test.YtfgmbjdeimallaaGreatDoorSl
import Derived.Maps.OwnSet
namespace Go.Proofs.YtfgmbjdeimallaaGreatDoor
open Go.RowKit Go.Lib Go.MapKept

section
variable {α β : Type}
/-- what a list of pairs has at a name -/
def mget (s : List UInt8) : List (List UInt8 × α) → Option α
  | [] => none
  | f :: r => if f.1 = s then some f.2 else mget s r
/-- a pair laid: in place of the one that is there, or behind all -/
def mput (s : List UInt8) (v : α) : List (List UInt8 × α) → List (List UInt8 × α)
  | [] => [(s, v)]
  | f :: r => if f.1 = s then (s, v) :: r else f :: mput s v r
/-- a pair taken out -/
def mdel (s : List UInt8) : List (List UInt8 × α) → List (List UInt8 × α)
  | [] => []
  | f :: r => if f.1 = s then r else f :: mdel s r
/-- the place of a name, and what stands there -/
def mfind (s : List UInt8) : List (List UInt8 × α) → Nat → Option (Nat × α)
  | [], _ => none
  | f :: r, i => if f.1 = s then some (i, f.2) else mfind s r (i + 1)

theorem mfind_some {s : List UInt8} : ∀ (fs : List (List UInt8 × α)) (i j : Nat) (v : α), mfind s fs i = some (j, v) →
    ∃ k, j = i + k ∧ fs[k]? = some (s, v) ∧ (∀ u, mput s u fs = fs.set k (s, u)) ∧ mdel s fs = fs.eraseIdx k ∧ mget s fs = some v
  | [], _, _, _, h => by simp [mfind] at h
  | f :: r, i, j, v, h => by
    unfold mfind at h
    by_cases e : f.1 = s
    · rw [if_pos e] at h
      simp only [Option.some.injEq, Prod.mk.injEq] at h
      obtain ⟨rfl, rfl⟩ := h
      subst e
      exact ⟨0, rfl, rfl, fun u => by simp [mput], by simp [mdel], by simp [mget]⟩
    · rw [if_neg e] at h
      obtain ⟨k, h1, h2, h3, h4, h5⟩ := mfind_some r (i + 1) j v h
      exact ⟨k + 1, by omega, by simpa using h2, fun u => by simp [mput, e, h3], by simp [mdel, e, h4], by simp [mget, e, h5]⟩
theorem mfind_none {s : List UInt8} : ∀ (fs : List (List UInt8 × α)) (i : Nat), mfind s fs i = none →
    (∀ f ∈ fs, f.1 ≠ s) ∧ (∀ u, mput s u fs = fs ++ [(s, u)]) ∧ mdel s fs = fs ∧ mget s fs = none
  | [], _, _ => ⟨by simp, fun _ => rfl, rfl, rfl⟩
  | f :: r, i, h => by
    unfold mfind at h
    by_cases e : f.1 = s
    · rw [if_pos e] at h; cases h
    · rw [if_neg e] at h
      obtain ⟨h1, h2, h3, h4⟩ := mfind_none r (i + 1) h
      refine ⟨fun x hx => ?_, fun u => by simp [mput, e, h2], by simp [mdel, e, h3], by simp [mget, e, h4]⟩
      rcases List.mem_cons.1 hx with rfl | hx
      · exact e
      · exact h1 x hx
theorem mget_mem {s : List UInt8} {v : α} : ∀ {fs : List (List UInt8 × α)}, mget s fs = some v → (s, v) ∈ fs
  | [], h => by simp [mget] at h
  | f :: r, h => by
    unfold mget at h
    by_cases e : f.1 = s
    · rw [if_pos e] at h
      obtain rfl := Option.some.inj h
      subst e
      exact .head _
    · rw [if_neg e] at h
      exact .tail _ (mget_mem h)
theorem mget_none {s : List UInt8} : ∀ {fs : List (List UInt8 × α)}, mget s fs = none ↔ ∀ f ∈ fs, f.1 ≠ s
  | [] => by simp [mget]
  | f :: r => by
    by_cases e : f.1 = s
    · simp [mget, e]
    · simp [mget, e, mget_none (fs := r)]
theorem mget_of_mem {s : List UInt8} {v : α} : ∀ {fs : List (List UInt8 × α)}, (fs.map (·.1)).Nodup → (s, v) ∈ fs → mget s fs = some v
  | [], _, h => by simp at h
  | f :: r, hn, h => by
    simp only [List.map_cons, List.nodup_cons] at hn
    rcases List.mem_cons.1 h with rfl | h
    · simp [mget]
    · have e : f.1 ≠ s := fun e => hn.1 (e ▸ List.mem_map.2 ⟨(s, v), h, rfl⟩)
      simp [mget, e, mget_of_mem hn.2 h]
theorem mget_mput {s t : List UInt8} {v : α} : ∀ {fs : List (List UInt8 × α)}, mget t (mput s v fs) = if t = s then some v else mget t fs
  | [] => by
    by_cases e : t = s
    · simp [mput, mget, e]
    · simp only [mput, mget, if_neg e, if_neg (fun h : s = t => e h.symm)]
  | f :: r => by
    by_cases e : f.1 = s
    · by_cases e2 : t = s
      · simp [mput, mget, e, e2]
      · simp only [mput, if_pos e, mget, if_neg e2, if_neg (fun h : s = t => e2 h.symm), if_neg (fun h : f.1 = t => e2 (h.symm.trans e))]
    · simp only [mput, if_neg e, mget, mget_mput (fs := r)]
      by_cases e2 : t = s
      · subst e2; simp [e]
      · simp [e2]
theorem mget_mdel {s t : List UInt8} : ∀ {fs : List (List UInt8 × α)}, (fs.map (·.1)).Nodup → mget t (mdel s fs) = if t = s then none else mget t fs
  | [], _ => by simp [mdel, mget]
  | f :: r, hn => by
    simp only [List.map_cons, List.nodup_cons] at hn
    by_cases e : f.1 = s
    · simp only [mdel, if_pos e, mget]
      by_cases e2 : t = s
      · subst e2
        rw [if_pos rfl, mget_none]
        exact fun x hx hxe => hn.1 (e ▸ hxe ▸ List.mem_map.2 ⟨x, hx, rfl⟩)
      · rw [if_neg e2, if_neg (fun h : f.1 = t => e2 (h.symm.trans e))]
    · simp only [mdel, if_neg e, mget, mget_mdel hn.2]
      by_cases e2 : t = s
      · subst e2; simp [e]
      · simp [e2]
theorem mem_mdel {s : List UInt8} {x : List UInt8 × α} : ∀ {fs : List (List UInt8 × α)}, x ∈ mdel s fs → x ∈ fs
  | [], h => by simp [mdel] at h
  | f :: r, h => by
    unfold mdel at h
    split at h
    · exact .tail _ h
    · rcases List.mem_cons.1 h with rfl | h
      · exact .head _
      · exact .tail _ (mem_mdel h)
theorem mem_mput {s : List UInt8} {v : α} {x : List UInt8 × α} : ∀ {fs : List (List UInt8 × α)}, x ∈ mput s v fs → x = (s, v) ∨ x ∈ fs
  | [], h => by simp [mput] at h; exact .inl h
  | f :: r, h => by
    unfold mput at h
    split at h
    · rcases List.mem_cons.1 h with rfl | h
      · exact .inl rfl
      · exact .inr (.tail _ h)
    · rcases List.mem_cons.1 h with rfl | h
      · exact .inr (.head _)
      · exact (mem_mput h).imp id (.tail _)
theorem keys_mdel {s : List UInt8} : ∀ (fs : List (List UInt8 × α)), (mdel s fs).map (·.1) = (fs.map (·.1)).erase s
  | [] => rfl
  | f :: r => by
    by_cases e : f.1 = s
    · simp [mdel, e]
    · simp [mdel, e, keys_mdel r]
theorem keys_mput {s : List UInt8} {v : α} : ∀ (fs : List (List UInt8 × α)), (mput s v fs).map (·.1) = if s ∈ fs.map (·.1) then fs.map (·.1) else fs.map (·.1) ++ [s]
  | [] => by simp [mput]
  | f :: r => by
    by_cases e : f.1 = s
    · simp [mput, e]
    · have := keys_mput (s := s) (v := v) r
      simp only [mput, if_neg e, List.map_cons, this, List.mem_cons, Ne.symm e, false_or]
      split <;> simp
theorem nodup_mdel {s : List UInt8} {fs : List (List UInt8 × α)} (h : (fs.map (·.1)).Nodup) : ((mdel s fs).map (·.1)).Nodup := by
  rw [keys_mdel]; exact h.erase s
theorem nodup_mput {s : List UInt8} {v : α} {fs : List (List UInt8 × α)} (h : (fs.map (·.1)).Nodup) : ((mput s v fs).map (·.1)).Nodup := by
  rw [keys_mput]
  split
  · exact h
  · rename_i hs
    exact List.nodup_append.2 ⟨h, by simp, fun a ha b hb => by simp at hb; subst hb; exact fun e => hs (e ▸ ha)⟩
theorem mget_map (g : α → β) {s : List UInt8} : ∀ (fs : List (List UInt8 × α)), mget s (fs.map fun f => (f.1, g f.2)) = (mget s fs).map g
  | [] => rfl
  | f :: r => by by_cases e : f.1 = s <;> simp [mget, e, mget_map g r]
theorem mput_map (g : α → β) {s : List UInt8} {v : α} : ∀ (fs : List (List UInt8 × α)), mput s (g v) (fs.map fun f => (f.1, g f.2)) = (mput s v fs).map fun f => (f.1, g f.2)
  | [] => rfl
  | f :: r => by by_cases e : f.1 = s <;> simp [mput, e, mput_map g r]
theorem mdel_map (g : α → β) {s : List UInt8} : ∀ (fs : List (List UInt8 × α)), mdel s (fs.map fun f => (f.1, g f.2)) = (mdel s fs).map fun f => (f.1, g f.2)
  | [] => rfl
  | f :: r => by by_cases e : f.1 = s <;> simp [mdel, e, mdel_map g r]
theorem mdel_none {s : List UInt8} : ∀ {fs : List (List UInt8 × α)}, mget s fs = none → mdel s fs = fs
  | [], _ => rfl
  | f :: r, h => by
    unfold mget at h
    by_cases e : f.1 = s
    · rw [if_pos e] at h; cases h
    · rw [if_neg e] at h; simp [mdel, e, mdel_none h]
theorem length_mput {s : List UInt8} {v : α} : ∀ (fs : List (List UInt8 × α)), (mput s v fs).length = fs.length + if (mget s fs).isSome then 0 else 1
  | [] => rfl
  | f :: r => by
    by_cases e : f.1 = s
    · simp [mput, mget, e]
    · simp only [mput, mget, if_neg e, List.length_cons, length_mput r]; omega
end

/-- a pair of a map, as the model's entry has it -/
def kvp (f : List UInt8 × Value) : Value × Value := (.string ⟨f.1.toArray⟩, f.2)
/-- block b is a map of these pairs, in the order of their laying -/
def MapAt (w : World) (b : Nat) (fs : List (List UInt8 × Value)) : Prop :=
  ∃ es clock, w.heap[b]? = some (.map es clock) ∧ Stamped es clock ∧ es.toList.map (fun e => (e.key, e.val)) = fs.map kvp

theorem str_inj {a b : List UInt8} : (Value.string ⟨a.toArray⟩ = Value.string ⟨b.toArray⟩) ↔ a = b := by simp

section
variable {w w' : World} {b : Nat} {fs : List (List UInt8 × Value)} {L : List Nat}
theorem MapAt.lt (h : MapAt w b fs) : b < w.heap.size := by
  obtain ⟨es, clock, h1, _⟩ := h
  exact (Array.getElem?_eq_some_iff.1 h1).1
theorem MapAt.keep (h : MapAt w b fs) (hk : Keeps L w w') (hb : b ∉ L) : MapAt w' b fs := by
  obtain ⟨es, clock, h1, h2⟩ := h
  exact ⟨es, clock, (hk.block b (Array.getElem?_eq_some_iff.1 h1).1 hb).trans h1, h2⟩
theorem MapAt.keep0 (h : MapAt w b fs) (hk : Keeps [] w w') : MapAt w' b fs := h.keep hk (by simp)
theorem MapAt.ne_blk (h : MapAt w b fs) {b' : Nat} {t : TypeId} {cs : Array Value} (hB : Blk w b' t cs) : b' ≠ b := by
  rintro rfl
  obtain ⟨es, clock, h1, _⟩ := h
  unfold Blk at hB
  rw [hB] at h1
  cases h1
theorem MapAt.new (w : World) : MapAt (w.alloc (.map #[] 0)) w.heap.size [] := ⟨#[], 0, heap_alloc_new w _, stamped_empty 0, rfl⟩
theorem MapAt.nodup (h : MapAt w b fs) : (fs.map (·.1)).Nodup := by
  obtain ⟨es, clock, h1, ⟨_, _, h2⟩, h3⟩ := h
  have e : es.toList.map (·.key) = fs.map (fun f => Value.string ⟨f.1.toArray⟩) := by
    have := congrArg (List.map Prod.fst) h3
    simpa [kvp, Function.comp_def] using this
  rw [e] at h2
  rw [List.Nodup, List.pairwise_map] at h2 ⊢
  exact h2.imp fun h e => h (by rw [e])

theorem findNow_kv {s : List UInt8} : ∀ (l : List MapEntry) (fs : List (List UInt8 × Value)) (i : Nat), l.map (fun e => (e.key, e.val)) = fs.map kvp → Instr.findNow .string (.string ⟨s.toArray⟩) l i = some (mfind s fs i)
  | [], [], _, _ => rfl
  | [], _ :: _, _, h => by simp at h
  | _ :: _, [], _, h => by simp at h
  | e :: l, f :: fs, i, h => by
    simp only [List.map_cons, List.cons.injEq, kvp, Prod.mk.injEq] at h
    obtain ⟨⟨h1, h2⟩, h3⟩ := h
    have ih := findNow_kv (s := s) l fs (i + 1) h3
    have hb : ((⟨s.toArray⟩ : ByteArray) == ⟨f.1.toArray⟩) = decide (f.1 = s) := by
      rw [Bool.eq_iff_iff, bytes_beq]
      simp [eq_comm]
    unfold Instr.findNow
    rw [h1]
    simp only [Instr.sameNow, hb]
    by_cases e' : f.1 = s
    · simp [e', mfind, h2]
    · simp [e', mfind, ih]

variable {P : Program} {t k e : TypeId}

theorem run_lookup_kv (h : MapAt w b fs) (ht : P.underlying t = some (.map k e)) (hk : P.underlying k = some .string) {z : Value} (hz : (zeroValue e).run P w = .ok z w) (s : List UInt8) :
    (Instr.lookup t (.map (some b)) (.string ⟨s.toArray⟩) true).run P w = .ok (.tuple #[(mget s fs).getD z, .bool (mget s fs).isSome]) w := by
  obtain ⟨es, clock, h1, h2, h3⟩ := h
  have hf := findNow_kv (s := s) es.toList fs 0 h3
  have hks : IsKey .string (.string ⟨s.toArray⟩) := trivial
  cases hm : mfind s fs 0 with
  | none =>
    obtain ⟨_, _, _, hg⟩ := mfind_none fs 0 hm
    rw [hm] at hf
    simp [Instr.lookup, run_underlying ht, MapKept.run_getObj_map h1, MapKept.run_checkKey hk hks, MapKept.run_findKey hk hf, hz, Result.andThen, hg]
  | some p =>
    obtain ⟨j, v⟩ := p
    obtain ⟨_, _, _, _, _, hg⟩ := mfind_some fs 0 j v hm
    rw [hm] at hf
    simp [Instr.lookup, run_underlying ht, MapKept.run_getObj_map h1, MapKept.run_checkKey hk hks, MapKept.run_findKey hk hf, Result.andThen, hg]

theorem run_update_kv (h : MapAt w b fs) (ht : P.underlying t = some (.map k e)) (hk : P.underlying k = some .string) (s : List UInt8) (v : Value) :
    ∃ w', (Instr.mapUpdate t (.map (some b)) (.string ⟨s.toArray⟩) v).run P w = .ok () w' ∧ MapAt w' b (mput s v fs) ∧ Keeps [b] w w' := by
  obtain ⟨es, clock, h1, h2, h3⟩ := h
  have hf := findNow_kv (s := s) es.toList fs 0 h3
  have hks : IsKey .string (.string ⟨s.toArray⟩) := trivial
  have hkeep : ∀ o : Obj, Keeps [b] w { w with heap := w.heap.setIfInBounds b o } := fun o => ⟨rfl, rfl, rfl, by simp, fun r hr hn => (heap_set (o' := o) h1).2 r (by simpa using hn)⟩
  cases hm : mfind s fs 0 with
  | none =>
    obtain ⟨hne, hp, _, _⟩ := mfind_none fs 0 hm
    rw [hm] at hf
    refine ⟨{ w with heap := w.heap.setIfInBounds b (.map (es.push { key := .string ⟨s.toArray⟩, val := v, born := clock }) (clock + 1)) }, by simp [Instr.mapUpdate, run_underlying ht, MapKept.run_getObj_map h1, MapKept.run_checkKey hk hks, MapKept.run_findKey hk hf, MapKept.run_setObj_map _ h1, Result.andThen], ⟨_, _, (heap_set h1).1, stamped_push h2 ?_, ?_⟩, hkeep _⟩
    · intro x hx
      have : (x.key, x.val) ∈ fs.map kvp := by rw [← h3]; exact List.mem_map.2 ⟨x, hx, rfl⟩
      obtain ⟨f, hf1, hf2⟩ := List.mem_map.1 this
      simp only [kvp, Prod.mk.injEq] at hf2
      rw [← hf2.1, Ne, str_inj]
      exact hne f hf1
    · simp [hp, h3, kvp]
  | some p =>
    obtain ⟨j, u⟩ := p
    obtain ⟨i, hji, hi, hp, _, _⟩ := mfind_some fs 0 j u hm
    obtain rfl : j = i := by omega
    rw [hm] at hf
    have hget : es.toList[j]?.map (fun e => (e.key, e.val)) = some (kvp (s, u)) := by
      have := congrArg (fun l => l[j]?) h3
      simpa [hi] using this
    obtain ⟨x, hx1, hx2⟩ := Option.map_eq_some_iff.1 hget
    simp only [kvp, Prod.mk.injEq] at hx2
    have hx3 : es[j]? = some x := by simpa using hx1
    have hst : (Instr.keyThatStays (.string ⟨s.toArray⟩) (.string ⟨s.toArray⟩)).run P w = .ok (.string ⟨s.toArray⟩) w := run_keyThatStays hks
    refine ⟨{ w with heap := w.heap.setIfInBounds b (.map (es.modify j fun e => { e with key := .string ⟨s.toArray⟩, val := v }) clock) }, ?_, ⟨_, _, (heap_set h1).1, stamped_modify h2 _ _ (fun _ _ => rfl) ?_, ?_⟩, hkeep _⟩
    · simp [Instr.mapUpdate, run_underlying ht, MapKept.run_getObj_map h1, MapKept.run_checkKey hk hks, MapKept.run_findKey hk hf, Result.andThen, hx3, hx2.1, hst, MapKept.run_setObj_map _ h1]
    · intro y _ hy
      rw [hx3] at hy
      obtain rfl := Option.some.inj hy
      exact hx2.1.symm
    · rw [hp v]
      apply List.ext_getElem?
      intro m
      have hl := congrArg (fun l => l[m]?) h3
      simp only [List.getElem?_map, Array.getElem?_toList] at hl ⊢
      simp only [Array.getElem?_modify, List.getElem?_set]
      by_cases hmj : j = m
      · subst hmj
        have : j < fs.length := (List.getElem?_eq_some_iff.1 hi).1
        simp [hx3, this, kvp]
      · simp [hmj, hl]

theorem run_delete_kv (h : MapAt w b fs) (ht : P.underlying t = some (.map k e)) (hk : P.underlying k = some .string) (s : List UInt8) (ty : TypeId) :
    ∃ w', (Builtin.delete_ #[t, k] ty #[.map (some b), .string ⟨s.toArray⟩]).run P w = .ok (.tuple #[]) w' ∧ MapAt w' b (mdel s fs) ∧ Keeps [b] w w' := by
  obtain ⟨es, clock, h1, h2, h3⟩ := h
  have hf := findNow_kv (s := s) es.toList fs 0 h3
  have hks : IsKey .string (.string ⟨s.toArray⟩) := trivial
  have hkeep : ∀ o : Obj, Keeps [b] w { w with heap := w.heap.setIfInBounds b o } := fun o => ⟨rfl, rfl, rfl, by simp, fun r hr hn => (heap_set (o' := o) h1).2 r (by simpa using hn)⟩
  cases hm : mfind s fs 0 with
  | none =>
    obtain ⟨_, _, hd, _⟩ := mfind_none fs 0 hm
    rw [hm] at hf
    refine ⟨_, by simp [Builtin.delete_, run_underlying ht, MapKept.run_getObj_map h1, MapKept.run_checkKey hk hks, MapKept.run_findKey hk hf, MapKept.run_setObj_map _ h1, Result.andThen], ⟨_, _, (heap_set h1).1, h2, by rw [hd, h3]⟩, hkeep _⟩
  | some p =>
    obtain ⟨j, u⟩ := p
    obtain ⟨i, hji, hi, _, hd, _⟩ := mfind_some fs 0 j u hm
    obtain rfl : j = i := by omega
    rw [hm] at hf
    refine ⟨_, by simp [Builtin.delete_, run_underlying ht, MapKept.run_getObj_map h1, MapKept.run_checkKey hk hks, MapKept.run_findKey hk hf, MapKept.run_setObj_map _ h1, Result.andThen], ⟨_, _, (heap_set h1).1, stamped_erase h2 j, ?_⟩, hkeep _⟩
    have hjl : j < es.size := by
      have := (List.getElem?_eq_some_iff.1 hi).1
      have hl := congrArg List.length h3
      simp at hl
      omega
    rw [hd]
    have e1 : (es.eraseIdxIfInBounds j).toList = es.toList.eraseIdx j := by simp [Array.eraseIdxIfInBounds, hjl]
    have hmap : ∀ {α β : Type} (g : α → β) (l : List α) (n : Nat), (l.eraseIdx n).map g = (l.map g).eraseIdx n := by
      intro α β g l
      induction l with
      | nil => intro n; simp
      | cons x l ih => intro n; cases n <;> simp [ih]
    rw [e1, hmap, h3, ← hmap]

theorem run_len_kv (h : MapAt w b fs) (ht : P.underlying t = some (.map k e)) (ty : TypeId) : (Builtin.len_ #[t] ty #[.map (some b)]).run P w = .ok (.int .i64 fs.length) w := by
  obtain ⟨es, clock, h1, h2, h3⟩ := h
  have : es.size = fs.length := by simpa using congrArg List.length h3
  simp [Builtin.len_, run_underlying ht, MapKept.run_getObj_map h1, Result.andThen, this, goInt]
end

section
variable {P : Program} (w : World) {ops : Array Oper} {rest : List Oper} {o : Oper} {a : Act} {Q : Exit → Act → World → Prop}
/-- 'v, ok := m[k]' -/
theorem wpList_lookup_kv (hg : o.guard = none) (m x : Operand) (t : TypeId) (hop : o.op = Op.lookup t m x true) (k e : TypeId) (ht : P.underlying t = some (.map k e)) (hk : P.underlying k = some .string) {z : Value} (hz : ∀ w, (zeroValue e).run P w = .ok z w)
    (b : Nat) (fs : List (List UInt8 × Value)) (hm : a.eval m = .map (some b)) (h : MapAt w b fs) (s : List UInt8) (hx : a.eval x = .string ⟨s.toArray⟩) (v : Value) (ok : Bool) (hv : (mget s fs).getD z = v) (hok : (mget s fs).isSome = ok)
    (hK : wpList P ops Q rest (a.put o.dst (.tuple #[v, .bool ok])) w) : wpList P ops Q (o :: rest) a w := by
  refine wpList_plain hg fun K' hK' => ?_
  have hrun := run_lookup_kv h ht hk (hz w) s
  rw [hv, hok] at hrun
  unfold Oper.wp
  simp [execOp, hop, hm, hx, hrun, Result.andThen]
  exact hK' _ _ hK
/-- 'm[k] = v' -/
theorem wpList_update_kv (hg : o.guard = none) (m x v : Operand) (t : TypeId) (hop : o.op = Op.mapUpdate t m x v) (k e : TypeId) (ht : P.underlying t = some (.map k e)) (hk : P.underlying k = some .string)
    (b : Nat) (fs : List (List UInt8 × Value)) (hm : a.eval m = .map (some b)) (h : MapAt w b fs) (s : List UInt8) (hx : a.eval x = .string ⟨s.toArray⟩) (u : Value) (hv : a.eval v = u)
    (hK : ∀ w', MapAt w' b (mput s u fs) → Keeps [b] w w' → wpList P ops Q rest (a.put o.dst undef) w') : wpList P ops Q (o :: rest) a w := by
  refine wpList_plain hg fun K' hK' => ?_
  obtain ⟨w', hrun, r1, r2⟩ := run_update_kv h ht hk s u
  unfold Oper.wp
  simp [execOp, hop, hm, hx, hv, hrun, Result.andThen]
  exact hK' _ _ (hK w' r1 r2)
/-- 'delete(m, k)' -/
theorem wpList_delete_kv (hg : o.guard = none) (m x : Operand) (t k : TypeId) (hop : o.op = Op.call { callee := Callee.builtin Builtin.delete, args := #[m, x], argTypes := #[t, k] }) (e : TypeId) (ht : P.underlying t = some (.map k e)) (hk : P.underlying k = some .string)
    (b : Nat) (fs : List (List UInt8 × Value)) (hm : a.eval m = .map (some b)) (h : MapAt w b fs) (s : List UInt8) (hx : a.eval x = .string ⟨s.toArray⟩)
    (hK : ∀ w', MapAt w' b (mdel s fs) → Keeps [b] w w' → wpList P ops Q rest (a.put o.dst (.tuple #[])) w') : wpList P ops Q (o :: rest) a w := by
  refine wpList_plain hg fun K' hK' => ?_
  obtain ⟨w', hrun, r1, r2⟩ := run_delete_kv h ht hk s o.type
  unfold Oper.wp
  simp [execOp, hop, resolve, invoke, builtin, hm, hx, hrun, Result.andThen]
  exact hK' _ _ (hK w' r1 r2)
/-- 'len(m)' -/
theorem wpList_len_kv (hg : o.guard = none) (m : Operand) (t : TypeId) (hop : o.op = Op.call { callee := Callee.builtin Builtin.len, args := #[m], argTypes := #[t] }) (k e : TypeId) (ht : P.underlying t = some (.map k e))
    (b : Nat) (fs : List (List UInt8 × Value)) (hm : a.eval m = .map (some b)) (h : MapAt w b fs) (hK : wpList P ops Q rest (a.put o.dst (.int .i64 (fs.length : Int))) w) : wpList P ops Q (o :: rest) a w := by
  refine wpList_plain hg fun K' hK' => ?_
  unfold Oper.wp
  simp [execOp, hop, resolve, invoke, builtin, hm, run_len_kv h ht o.type, Result.andThen]
  exact hK' _ _ hK
end
section
variable {P : Program} {ops : Array Oper} {o : Oper} {a : Act} {w : World} {K : Act → World → Prop} {Q : Exit → Act → World → Prop} {E : Prop}
/-- the same as steps of a region that draws -/
theorem step_update_kv (hg : o.guard = none) (m x v : Operand) (t : TypeId) (hop : o.op = Op.mapUpdate t m x v) (k e : TypeId) (ht : P.underlying t = some (.map k e)) (hk : P.underlying k = some .string)
    (b : Nat) (fs : List (List UInt8 × Value)) (hm : a.eval m = .map (some b)) (h : MapAt w b fs) (s : List UInt8) (hx : a.eval x = .string ⟨s.toArray⟩) (u : Value) (hv : a.eval v = u)
    (hK : ∀ w', MapAt w' b (mput s u fs) → Keeps [b] w w' → K (a.put o.dst undef) w') : if Region.wanted o (yielded ops a.tmps) = true then Oper.wp P o a w K Q else E := by
  have hw : Region.wanted o (yielded ops a.tmps) = true := by simp [Region.wanted, hg]
  rw [if_pos hw]
  obtain ⟨w', hrun, r1, r2⟩ := run_update_kv h ht hk s u
  unfold Oper.wp
  simp [execOp, hop, hm, hx, hv, hrun, Result.andThen]
  exact hK w' r1 r2
theorem step_delete_kv (hg : o.guard = none) (m x : Operand) (t k : TypeId) (hop : o.op = Op.call { callee := Callee.builtin Builtin.delete, args := #[m, x], argTypes := #[t, k] }) (e : TypeId) (ht : P.underlying t = some (.map k e)) (hk : P.underlying k = some .string)
    (b : Nat) (fs : List (List UInt8 × Value)) (hm : a.eval m = .map (some b)) (h : MapAt w b fs) (s : List UInt8) (hx : a.eval x = .string ⟨s.toArray⟩)
    (hK : ∀ w', MapAt w' b (mdel s fs) → Keeps [b] w w' → K (a.put o.dst (.tuple #[])) w') : if Region.wanted o (yielded ops a.tmps) = true then Oper.wp P o a w K Q else E := by
  have hw : Region.wanted o (yielded ops a.tmps) = true := by simp [Region.wanted, hg]
  rw [if_pos hw]
  obtain ⟨w', hrun, r1, r2⟩ := run_delete_kv h ht hk s o.type
  unfold Oper.wp
  simp [execOp, hop, resolve, invoke, builtin, hm, hx, hrun, Result.andThen]
  exact hK w' r1 r2
end
end Go.Proofs.YtfgmbjdeimallaaGreatDoor
