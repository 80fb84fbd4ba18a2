/- Runs of elements that are owned: they may lie anywhere in their block, and their capacity may have been cut. -/
import Derived.Test.YtfgmbjdeimallaaGreatDoorBy
namespace Go.Proofs.YtfgmbjdeimallaaGreatDoor
open Go.RowKit

/-- n elements of sz cells of type e, alone in their block from some place on -/
def OwnO (w : World) (e : TypeId) (sz : Nat) (ao : Option Addr) (n c : Nat) (xs : List Value) : Prop :=
  (ao = none ∧ n = 0 ∧ c = 0 ∧ xs = []) ∨ ∃ g o cur, ao = some ⟨g, o, none⟩ ∧ w.heap[g]? = some (.cells cur e (0, 0)) ∧ n ≤ c ∧ c ≤ maxLen ∧ o + c * sz ≤ cur.size ∧ xs.length = n * sz ∧ (cur.toList.drop o).take (n * sz) = xs
section
variable {w w' : World} {e : TypeId} {sz : Nat} {ao : Option Addr} {n c : Nat} {xs : List Value} {L : List Nat}
theorem OwnO.nil (w : World) (e : TypeId) (sz : Nat) : OwnO w e sz none 0 0 [] := .inl ⟨rfl, rfl, rfl, rfl⟩
theorem OwnO.len (h : OwnO w e sz ao n c xs) : xs.length = n * sz := by
  rcases h with ⟨_, rfl, _, rfl⟩ | ⟨g, o, cur, _, _, _, _, _, h, _⟩
  · simp
  · exact h
theorem OwnO.cap (h : OwnO w e sz ao n c xs) : n ≤ c := by
  rcases h with ⟨_, rfl, _, rfl⟩ | ⟨g, o, cur, _, _, h, _⟩
  · simp
  · exact h
theorem OwnO.most (h : OwnO w e sz ao n c xs) : c ≤ maxLen := by
  rcases h with ⟨_, rfl, rfl, rfl⟩ | ⟨g, o, cur, _, _, _, h, _⟩
  · simp
  · exact h
theorem OwnO.sl (h : OwnO w e sz ao n c xs) (h1 : ∀ u ∈ xs, u.oneCell' = true) : Sl w sz ao n c xs := by
  rcases h with ⟨rfl, rfl, rfl, rfl⟩ | ⟨g, o, cur, rfl, hg, h2, h3, h4, h5, h6⟩
  · exact Sl.none w sz
  · refine ⟨h5, h2, h3, fun e => by simp at e, fun _ ad e => by cases e; rfl, ?_, h1⟩
    intro ad e j u hj
    cases e
    have hl := (List.getElem?_eq_some_iff.1 hj).1
    rw [← h6, List.getElem?_take, if_pos (by omega), List.getElem?_drop] at hj
    have := cell_of_row w g (o + j) cur e (0, 0) hg
    simp only at this ⊢
    rw [this, ← Array.getElem?_toList]
    exact hj
theorem OwnO.lt (h : OwnO w e sz ao n c xs) : ∀ x ∈ blks ao, x < w.heap.size := by
  intro x hx
  rcases h with ⟨rfl, rfl, rfl, rfl⟩ | ⟨g, o, cur, rfl, hg, _⟩
  · simp at hx
  · simp at hx
    subst hx
    exact (Array.getElem?_eq_some_iff.1 hg).1
theorem OwnO.kind (h : OwnO w e sz ao n c xs) : ∀ x ∈ blks ao, ∃ cs, w.heap[x]? = some (.cells cs e (0, 0)) := by
  intro x hx
  rcases h with ⟨rfl, rfl, rfl, rfl⟩ | ⟨g, o, cur, rfl, hg, _⟩
  · simp at hx
  · simp at hx
    subst hx
    exact ⟨cur, hg⟩
theorem OwnO.keep (h : OwnO w e sz ao n c xs) (hk : Keeps L w w') (hL : ∀ x ∈ blks ao, x ∉ L) : OwnO w' e sz ao n c xs := by
  rcases h with h | ⟨g, o, cur, rfl, hg, rest⟩
  · exact .inl h
  · exact .inr ⟨g, o, cur, rfl, (hk.block g (Array.getElem?_eq_some_iff.1 hg).1 (hL g (by simp))).trans hg, rest⟩
theorem OwnO.keep0 (h : OwnO w e sz ao n c xs) (hk : Keeps [] w w') : OwnO w' e sz ao n c xs := h.keep hk (by simp)
/-- a block of another type is none of its blocks -/
theorem OwnO.off (h : OwnO w e sz ao n c xs) {b : Nat} {t : TypeId} {cs : Array Value} (hB : Blk w b t cs) (hne : t ≠ e) : b ∉ blks ao := by
  intro hx
  obtain ⟨cs', hc⟩ := h.kind b hx
  unfold Blk at hB
  rw [hc] at hB
  simp only [Option.some.injEq, Obj.cells.injEq] at hB
  exact hne hB.2.1.symm
/-- what a function made itself -/
theorem OwnO.of {N : Nat} (h : w.ownsRow N e sz (.slice ao n c) n xs) : OwnO w e sz ao n c xs := by
  rcases h.2 with ⟨he, rfl⟩ | ⟨g, cap, cur, he, hb, hg, h1, h2, h3, h4⟩
  · simp only [Value.slice.injEq] at he
    obtain ⟨rfl, _, rfl⟩ := he
    exact .inl ⟨rfl, rfl, rfl, List.eq_nil_of_length_eq_zero (by simpa using h.1)⟩
  · simp only [Value.slice.injEq] at he
    obtain ⟨rfl, _, rfl⟩ := he
    exact .inr ⟨g, 0, cur, rfl, hg, h1, h2, by rw [h3]; omega, h.1, by simpa using h4⟩
/-- the first k elements, the capacity cut -/
theorem OwnO.take (h : OwnO w e sz ao n c xs) {k c' : Nat} (hk : k ≤ n) (hc : k ≤ c') (hc' : c' ≤ c) : OwnO w e sz ao k c' (xs.take (k * sz)) := by
  rcases h with ⟨rfl, rfl, rfl, rfl⟩ | ⟨g, o, cur, rfl, hg, h1, h2, h3, h4, h5⟩
  · exact .inl ⟨rfl, by omega, by omega, by simp⟩
  · have hm : k * sz ≤ n * sz := Nat.mul_le_mul_right _ hk
    have hm2 : c' * sz ≤ c * sz := Nat.mul_le_mul_right _ hc'
    refine .inr ⟨g, o, cur, rfl, hg, hc, by omega, by omega, by rw [List.length_take, h4]; omega, ?_⟩
    rw [← h5, List.take_take, Nat.min_eq_left hm]
/-- from the k-th element on -/
theorem OwnO.drop (h : OwnO w e sz ao n c xs) {k : Nat} (hk : k ≤ n) : OwnO w e sz (if c = k then ao else ao.map (·.add (k * sz))) (n - k) (c - k) (xs.drop (k * sz)) := by
  rcases h with ⟨rfl, rfl, rfl, rfl⟩ | ⟨g, o, cur, rfl, hg, h1, h2, h3, h4, h5⟩
  · exact .inl ⟨by simp, by omega, by omega, by simp⟩
  · have hm : k * sz ≤ n * sz := Nat.mul_le_mul_right _ hk
    have hm2 : n * sz ≤ c * sz := Nat.mul_le_mul_right _ h1
    have e1 : (n - k) * sz = n * sz - k * sz := Nat.sub_mul _ _ _
    have e2 : (c - k) * sz = c * sz - k * sz := Nat.sub_mul _ _ _
    by_cases hck : c = k
    · rw [if_pos hck]
      have hnk : n = k := by omega
      refine .inr ⟨g, o, cur, rfl, hg, by omega, by omega, by rw [e2]; omega, by rw [List.length_drop, h4, e1], ?_⟩
      subst hnk
      rw [Nat.sub_self, Nat.zero_mul, List.take_zero, List.drop_of_length_le (by omega)]
    · rw [if_neg hck]
      refine .inr ⟨g, o + k * sz, cur, by simp [Addr.add_lit], hg, by omega, by omega, by rw [e2]; omega, by rw [List.length_drop, h4, e1], ?_⟩
      rw [← h5, List.drop_take, List.drop_drop, e1]
end

section
variable {P : Program}
theorem run_append_bo (w : World) (t tx ty e : TypeId) (i : TypeInfo) (z : Value) (size bytes : Nat) (h1 : P.underlying t = some (.slice e)) (h2 : P.info? e = some i) (h3 : i.zero = some z) (h4 : i.size = size) (h5 : i.bytes = bytes) (h6 : z.cells.size = size)
    (ao : Option Addr) (n c : Nat) (xs : List Value) (hO : OwnO w e size ao n c xs) (y : Value) (m : Nat) (news : List Value) (hs : Src P size tx y m news w)
    (b1 : n + m ≤ maxLen) (b2 : (n + m) * bytes ≤ 140737488355328) :
    ∃ ao' c' w', (Builtin.append_ #[t, tx] ty #[.slice ao n c, y]).run P w = .ok (.slice ao' (n + m) c') w' ∧ OwnO w' e size ao' (n + m) c' (xs ++ news) ∧ Keeps (blks ao) w w' ∧ (∀ x ∈ blks ao', x ∈ blks ao ∨ w.heap.size ≤ x) ∧ (c < n + m → Keeps [] w w') := by
  have fin : ∀ (ao' : Option Addr), (∀ ad, ao' = some ad → ad.block ∈ blks ao ∨ w.heap.size ≤ ad.block) → ∀ x ∈ blks ao', x ∈ blks ao ∨ w.heap.size ≤ x := fun ao' h x hx => by
    cases ao' with
    | none => simp at hx
    | some ad =>
      simp only [blks, List.mem_singleton] at hx
      subst hx
      exact h ad rfl
  rcases hO with ⟨rfl, rfl, rfl, rfl⟩ | ⟨g, o, cur, rfl, hg, hnc, hcm, hcs, hxl, htk⟩
  · obtain ⟨ao', c', w', r1, r2, r3, r4⟩ := run_append_by (P := P) w 0 t tx ty e i z size bytes h1 h2 h3 h4 h5 h6 none 0 0 [] (World.ownsRow_nil _ _ _ _) y m news hs b1 b2 (Nat.zero_le _)
    exact ⟨ao', c', w', r1, OwnO.of r2, r3, fin ao' r4, fun _ => r3⟩
  · by_cases hroom : n + m ≤ c
    · have hm2 : (n + m) * size ≤ c * size := Nat.mul_le_mul_right _ hroom
      have e1 : (n + m) * size = n * size + m * size := Nat.add_mul _ _ _
      have hnl := hs.newsLen
      have hfit : (o + n * size) + news.length ≤ cur.size := by omega
      have hr := run_append_room_src (P := P) w t tx ty e i h1 h2 g o n c y m news (by rw [h4]; exact hs) hroom (by
        intro j hj
        rw [h4, cell_of_row w g _ cur e (0, 0) hg, Array.getElem?_eq_getElem (by omega)]
        rfl) (fun j _ => frozen_of_row w g _ cur e hg)
      rw [h4] at hr
      obtain ⟨cur', g1, g2, g3⟩ := heap_setCells g e news (o + n * size) cur w hg hfit
      refine ⟨_, _, _, hr, .inr ⟨g, o, cur', rfl, g1, hroom, hcm, by omega, by rw [List.length_append, hxl, hnl, e1], ?_⟩, ?_, fun x hx => .inl hx, fun h => by omega⟩
      · have g4 := congrArg (List.drop o) g3
        rw [List.drop_take, List.drop_append_of_le_length (by simp; omega), List.drop_take] at g4
        rw [show o + n * size + news.length - o = (n + m) * size by omega, show o + n * size - o = n * size by omega, htk] at g4
        exact g4
      · refine ⟨World.os_setCells w _ _ _, tape_setCells g news _ w, World.output_setCells w _ _ _, Nat.le_of_eq (size_setCells g news _ w).symm, fun k hk hn => World.heap_setCells_other w _ _ _ hk (by simpa using hn)⟩
    · have hold : (Builtin.firstCells i.size n (.slice (some ⟨g, o, none⟩) n c)).run P w.drew = .ok xs.toArray w.drew := by
        refine run_firstCells_some w.drew i.size n ⟨g, o, none⟩ n c xs (by rw [h4]; exact hxl) ?_
        intro j u hj
        have hl := (List.getElem?_eq_some_iff.1 hj).1
        rw [← htk, List.getElem?_take, if_pos (by omega), List.getElem?_drop] at hj
        rw [Addr.add_lit]
        have := cell_of_row w g (o + j) cur e (0, 0) hg
        exact this.trans (by rw [← Array.getElem?_toList]; exact hj)
      have hb63 : ((n + m : Nat) : Int) ≤ 9223372036854775807 := by have := b1; unfold maxLen at this; omega
      have hr := run_append_grow_src (P := P) w t tx ty e i z h1 h2 h3 (some ⟨g, o, none⟩) n c xs hold y m news (by rw [h4]; exact hs) (by omega) hb63 (growslice_fits (by omega) (by rw [h5]; exact b2))
      have hk : Keeps [] w (w.drew.alloc (.cells ((xs ++ news).toArray ++ Builtin.zeroCells z.cells (grownCap w (n + m) c e - (n + m))) e)) := ⟨rfl, rfl, rfl, by simp, fun k hk _ => Below.heap_alloc w.drew _ k hk⟩
      have hge := grownCap_ge w (n + m) c e
      have hnl := hs.newsLen
      refine ⟨_, _, _, hr, .inr ⟨w.heap.size, 0, _, rfl, heap_alloc_new w.drew _, hge, grownCap_le_maxLen w (n + m) c e b1, ?_, by rw [List.length_append, hxl, hnl, Nat.add_mul], ?_⟩, hk.mono (by simp), fun x hx => ?_, fun _ => hk⟩
      · simp only [Array.size_append, List.size_toArray, List.length_append, size_zeroCells, h6, hxl, hnl]
        rw [Nat.zero_add, Nat.sub_mul, Nat.add_mul]
        have : (n + m) * size ≤ grownCap w (n + m) c e * size := Nat.mul_le_mul_right _ hge
        rw [Nat.add_mul] at this
        omega
      · simp only [Array.toList_append, List.drop_zero]
        rw [List.take_append_of_le_length (by simp [hxl, hnl, Nat.add_mul])]
        rw [List.take_of_length_le (by simp [hxl, hnl, Nat.add_mul])]
      · simp at hx
        subst hx
        exact .inr (Nat.le_refl _)

theorem wpList_append_bo (w : World) {ops : Array Oper} {rest : List Oper} {o : Oper} {a : Act} {Q : Exit → Act → World → Prop}
    (hg : o.guard = none) (s x : Operand) (t tx : TypeId) (hop : o.op = Op.call { callee := Callee.builtin Builtin.append, args := #[s, x], argTypes := #[t, tx] })
    (e : TypeId) (i : TypeInfo) (z : Value) (size bytes : Nat) (h1 : P.underlying t = some (.slice e)) (h2 : P.info? e = some i) (h3 : i.zero = some z) (h4 : i.size = size) (h5 : i.bytes = bytes) (h6 : z.cells.size = size)
    (ao : Option Addr) (n c : Nat) (xs : List Value) (hv : a.eval s = .slice ao n c) (hO : OwnO w e size ao n c xs) (y : Value) (hy : a.eval x = y) (m : Nat) (news : List Value) (hs : Src P size tx y m news w)
    (b1 : n + m ≤ maxLen) (b2 : (n + m) * bytes ≤ 140737488355328)
    (hK : ∀ ao' c' w', OwnO w' e size ao' (n + m) c' (xs ++ news) → Keeps (blks ao) w w' → (∀ x ∈ blks ao', x ∈ blks ao ∨ w.heap.size ≤ x) → (c < n + m → Keeps [] w w') → wpList P ops Q rest (a.put o.dst (.slice ao' (n + m) c')) w') :
    wpList P ops Q (o :: rest) a w := by
  refine wpList_plain hg fun K hK' => ?_
  obtain ⟨ao', c', w', hrun, hO', hk, hb, h0⟩ := run_append_bo (P := P) w t tx o.type e i z size bytes h1 h2 h3 h4 h5 h6 ao n c xs hO y m news hs b1 b2
  unfold Oper.wp
  simp [execOp, hop, resolve, invoke, builtin, hv, hy, hrun, Result.andThen]
  exact hK' _ _ (hK ao' c' w' hO' hk hb h0)

theorem step_append_bo {ops : Array Oper} {o : Oper} {a : Act} {w : World} {K : Act → World → Prop} {Q : Exit → Act → World → Prop} {E : Prop}
    (hg : o.guard = none) (s x : Operand) (t tx : TypeId) (hop : o.op = Op.call { callee := Callee.builtin Builtin.append, args := #[s, x], argTypes := #[t, tx] })
    (e : TypeId) (i : TypeInfo) (z : Value) (size bytes : Nat) (h1 : P.underlying t = some (.slice e)) (h2 : P.info? e = some i) (h3 : i.zero = some z) (h4 : i.size = size) (h5 : i.bytes = bytes) (h6 : z.cells.size = size)
    (ao : Option Addr) (n c : Nat) (xs : List Value) (hv : a.eval s = .slice ao n c) (hO : OwnO w e size ao n c xs) (y : Value) (hy : a.eval x = y) (m : Nat) (news : List Value) (hs : Src P size tx y m news w)
    (b1 : n + m ≤ maxLen) (b2 : (n + m) * bytes ≤ 140737488355328)
    (hK : ∀ ao' c' w', OwnO w' e size ao' (n + m) c' (xs ++ news) → Keeps (blks ao) w w' → (∀ x ∈ blks ao', x ∈ blks ao ∨ w.heap.size ≤ x) → (c < n + m → Keeps [] w w') → K (a.put o.dst (.slice ao' (n + m) c')) w') :
    if Region.wanted o (yielded ops a.tmps) = true then Oper.wp P o a w K Q else E := by
  have hw : Region.wanted o (yielded ops a.tmps) = true := by simp [Region.wanted, hg]
  rw [if_pos hw]
  obtain ⟨ao', c', w', hrun, hO', hk, hb, h0⟩ := run_append_bo (P := P) w t tx o.type e i z size bytes h1 h2 h3 h4 h5 h6 ao n c xs hO y m news hs b1 b2
  unfold Oper.wp
  simp [execOp, hop, resolve, invoke, builtin, hv, hy, hrun, Result.andThen]
  exact hK ao' c' w' hO' hk hb h0
end
end Go.Proofs.YtfgmbjdeimallaaGreatDoor
