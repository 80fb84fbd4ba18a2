/- Laws on literals, over any program: a struct built, a slice literal of one element. (A walk that reckons them by simp makes the kernel run out of memory where frames are wide.) -/
import Derived.Test.YtfgmbjdeimallaaGreatDoorLawZ
import Derived.Laws.Tables
import Derived.Great.BuildSlice
namespace Go.Proofs.YtfgmbjdeimallaaGreatDoor
open Go.RowKit

section
variable {P : Program} {w : World} {ops : Array Oper} {rest : List Oper} {o : Oper} {a : Act} {Q : Exit → Act → World → Prop}

theorem wpList_built (hg : o.guard = none) (t : TypeId) (parts : Array (Nat × Operand)) (ho : o.op = .build t parts)
    (l : List (Nat × Value)) (cells : Array Value) (hb : P.built t l = some cells) (hl : parts.toList.map (fun p => (p.1, a.eval p.2)) = l)
    (h : wpList P ops Q rest (a.put o.dst (.agg cells)) w) : wpList P ops Q (o :: rest) a w := by
  have e : (parts.map fun (i, x) => (i, a.eval x)).toList = l := by
    rw [Array.toList_map]
    exact hl
  exact wpList_build hg t parts ho (by rw [e, hb]; rfl) (by rw [e, hb]; exact h)

/-- the same as one step of a region that draws -/
theorem step_built {K : Act → World → Prop} {E : Prop} (hg : o.guard = none) (t : TypeId) (parts : Array (Nat × Operand)) (ho : o.op = .build t parts)
    (l : List (Nat × Value)) (cells : Array Value) (hb : P.built t l = some cells) (hl : parts.toList.map (fun p => (p.1, a.eval p.2)) = l)
    (h : K (a.put o.dst (.agg cells)) w) : if Region.wanted o (yielded ops a.tmps) = true then Oper.wp P o a w K Q else E := by
  have hw : Region.wanted o (yielded ops a.tmps) = true := by simp [Region.wanted, hg]
  rw [if_pos hw]
  have e : (parts.map fun (i, x) => (i, a.eval x)).toList = l := by
    rw [Array.toList_map]
    exact hl
  exact wp_build t parts ho (by rw [e, hb]; rfl) (by rw [e, hb]; exact h)

theorem foldl_set : ∀ (l : List Value) (k : Nat) (cs : Array Value), k + l.length ≤ cs.size →
    ((l.zipIdx k).foldl (fun cs (p : Value × Nat) => cs.setIfInBounds (0 + p.2) p.1) cs).toList = cs.toList.take k ++ l ++ cs.toList.drop (k + l.length)
  | [], k, cs, _ => by simp
  | x :: l, k, cs, h => by
    simp only [List.length_cons] at h
    rw [List.zipIdx_cons, List.foldl_cons, foldl_set l (k + 1) _ (by simp; omega)]
    simp only [Nat.zero_add, Array.toList_setIfInBounds, List.length_cons]
    have hk : k < cs.toList.length := by simp; omega
    rw [List.take_succ_eq_append_getElem (by simpa using hk), List.take_set_of_le (Nat.le_refl k), List.getElem_set_self, List.drop_set_of_lt (by omega)]
    simp [show k + 1 + l.length = k + (l.length + 1) by omega]

theorem fill_one (v : Value) (cs : Array Value) (sz : Nat) (hc : v.cells.size = sz) (hs : cs.size = sz) :
    Instr.fill (fun i => some (i * sz, sz)) cs [(0, v)] = some v.cells := by
  subst hc
  have h := foldl_set v.cells.toList 0 cs (by simp; omega)
  simp only [Instr.fill, Nat.zero_mul, ne_eq, not_true_eq_false, decide_false, Bool.false_or, Nat.zero_add, gt_iff_lt]
  rw [if_neg (by simp; omega)]
  congr 1
  apply Array.ext'
  simp only [Nat.zero_add] at h
  rw [← Array.foldl_toList, Array.toList_zipIdx, h]
  simp
  omega

theorem run_slice1 (t e : TypeId) (ie : TypeInfo) (z v : Value) (sz : Nat) (hu : P.underlying t = some (.slice e)) (hi : P.info? e = some ie) (hz : ie.zero = some z) (hs : ie.size = sz) (hc : v.cells.size = sz) (hp : 0 < sz) (hm : sz ≤ 1000) :
    (Instr.buildSlice t 1 #[(0, v)]).run P w = .ok (.slice (some ⟨w.heap.size, 0, none⟩) 1 1) (w.alloc (.cells v.cells e)) :=
  run_buildSlice w t e 1 _ v.cells ie z hu hi hz (by omega) (by omega) (by subst hs; exact fill_one v _ _ hc (by simp))

theorem wpList_slice1 (hg : o.guard = none) (t e : TypeId) (x : Operand) (ho : o.op = .buildSlice t 1 #[(0, x)]) (ie : TypeInfo) (z v : Value) (sz : Nat) (hu : P.underlying t = some (.slice e)) (hi : P.info? e = some ie) (hz : ie.zero = some z) (hs : ie.size = sz)
    (hv : a.eval x = v) (hc : v.cells.size = sz) (hp : 0 < sz) (hm : sz ≤ 1000)
    (h : wpList P ops Q rest (a.put o.dst (.slice (some ⟨w.heap.size, 0, none⟩) 1 1)) (w.alloc (.cells v.cells e))) : wpList P ops Q (o :: rest) a w := by
  subst hv
  refine wpList_plain hg fun K hK => ?_
  unfold Oper.wp execOp
  simp only [ho, List.map_toArray, List.map_cons, List.map_nil, Sem.run_bind, run_slice1 t e ie z _ sz hu hi hz hs hc hp hm, Result.andThen_ok]
  exact hK _ _ h

/-- the same as one step of a region that draws -/
theorem step_slice1 {K : Act → World → Prop} {E : Prop} (hg : o.guard = none) (t e : TypeId) (x : Operand) (ho : o.op = .buildSlice t 1 #[(0, x)]) (ie : TypeInfo) (z v : Value) (sz : Nat) (hu : P.underlying t = some (.slice e)) (hi : P.info? e = some ie) (hz : ie.zero = some z) (hs : ie.size = sz)
    (hv : a.eval x = v) (hc : v.cells.size = sz) (hp : 0 < sz) (hm : sz ≤ 1000)
    (h : K (a.put o.dst (.slice (some ⟨w.heap.size, 0, none⟩) 1 1)) (w.alloc (.cells v.cells e))) : if Region.wanted o (yielded ops a.tmps) = true then Oper.wp P o a w K Q else E := by
  have hw : Region.wanted o (yielded ops a.tmps) = true := by simp [Region.wanted, hg]
  rw [if_pos hw]
  subst hv
  unfold Oper.wp execOp
  simp only [ho, List.map_toArray, List.map_cons, List.map_nil, Sem.run_bind, run_slice1 t e ie z _ sz hu hi hz hs hc hp hm, Result.andThen_ok]
  exact h
end
end Go.Proofs.YtfgmbjdeimallaaGreatDoor
