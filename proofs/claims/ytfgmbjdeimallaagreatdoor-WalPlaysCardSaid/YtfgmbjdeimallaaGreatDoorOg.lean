/- Bytes that are owned, of which the capacity may have been cut. -/
import Derived.Test.YtfgmbjdeimallaaGreatDoorBy
namespace Go.Proofs.YtfgmbjdeimallaaGreatDoor
open Go.RowKit

/-- bytes that lie at a block's beginning; behind them the block may go on, beyond the capacity too -/
def OwnG (w : World) (ao : Option Addr) (c : Nat) (l : List UInt8) : Prop :=
  (ao = none ∧ c = 0 ∧ l = []) ∨ ∃ g cur, ao = some ⟨g, 0, none⟩ ∧ w.heap[g]? = some (.cells cur 5 (0, 0)) ∧ l.length ≤ c ∧ c ≤ maxLen ∧ c ≤ cur.size ∧ cur.toList.take l.length = bys l
section
variable {w w' : World} {ao : Option Addr} {c N : Nat} {l : List UInt8} {L : List Nat}
theorem OwnG.nil (w : World) : OwnG w none 0 [] := .inl ⟨rfl, rfl, rfl⟩
theorem OwnG.of (h : Own w N ao c l) : OwnG w ao c l := by
  rcases h.2 with ⟨he, hx⟩ | ⟨g, cap, cur, he, hb, hg, h1, h2, h3, h4⟩
  · simp only [Value.slice.injEq] at he
    obtain ⟨rfl, h0, rfl⟩ := he
    exact .inl ⟨rfl, rfl, List.eq_nil_of_length_eq_zero h0⟩
  · simp only [Value.slice.injEq] at he
    obtain ⟨rfl, _, rfl⟩ := he
    exact .inr ⟨g, cur, rfl, hg, h1, h2, by omega, by simpa using h4⟩
theorem OwnG.rb (h : OwnG w ao c l) : Rb w ao c l := by
  rcases h with ⟨rfl, rfl, rfl⟩ | ⟨g, cur, rfl, hg, h1, h2, h3, h4⟩
  · exact Sl.none w 1
  · refine ⟨by simp, h1, h2, fun e => by simp at e, fun _ ad e => by cases e; rfl, ?_, bys_one l⟩
    intro ad e j u hj
    cases e
    have hl := (List.getElem?_eq_some_iff.1 hj).1
    rw [← h4, List.getElem?_take, if_pos (by simpa using hl)] at hj
    have := cell_of_row w g (0 + j) cur 5 (0, 0) hg
    simp only at this ⊢
    rw [this, Nat.zero_add, ← Array.getElem?_toList]
    exact hj
theorem OwnG.lt (h : OwnG w ao c l) : ∀ x ∈ blks ao, x < w.heap.size := by
  intro x hx
  rcases h with ⟨rfl, rfl, rfl⟩ | ⟨g, cur, rfl, hg, _⟩
  · simp at hx
  · simp at hx
    subst hx
    exact (Array.getElem?_eq_some_iff.1 hg).1
theorem OwnG.bytes (h : OwnG w ao c l) : ∀ x ∈ blks ao, ∃ cs, w.heap[x]? = some (.cells cs 5 (0, 0)) := by
  intro x hx
  rcases h with ⟨rfl, rfl, rfl⟩ | ⟨g, cur, rfl, hg, _⟩
  · simp at hx
  · simp at hx
    subst hx
    exact ⟨cur, hg⟩
theorem OwnG.keep (h : OwnG w ao c l) (hk : Keeps L w w') (hL : ∀ x ∈ blks ao, x ∉ L) : OwnG w' ao c l := by
  rcases h with h | ⟨g, cur, rfl, hg, rest⟩
  · exact .inl h
  · exact .inr ⟨g, cur, rfl, (hk.block g (Array.getElem?_eq_some_iff.1 hg).1 (hL g (by simp))).trans hg, rest⟩
theorem OwnG.keep0 (h : OwnG w ao c l) (hk : Keeps [] w w') : OwnG w' ao c l := h.keep hk (by simp)
/-- the first k bytes, the capacity cut -/
theorem OwnG.cut (h : OwnG w ao c l) {k c' : Nat} (hk : k ≤ l.length) (hc : k ≤ c') (hc' : c' ≤ c) : OwnG w ao c' (l.take k) := by
  rcases h with ⟨rfl, rfl, rfl⟩ | ⟨g, cur, rfl, hg, h1, h2, h3, h4⟩
  · exact .inl ⟨rfl, by omega, by simp⟩
  · refine .inr ⟨g, cur, rfl, hg, by rw [List.length_take]; omega, by omega, by omega, ?_⟩
    rw [List.length_take, Nat.min_eq_left hk]
    have : (cur.toList.take l.length).take k = (bys l).take k := by rw [h4]
    rw [List.take_take, Nat.min_eq_left hk] at this
    rw [this]
    simp [bys, List.map_take]
theorem OwnG.caps (h : OwnG w ao c l) : l.length ≤ c := by
  rcases h with ⟨rfl, rfl, rfl⟩ | ⟨g, cur, rfl, hg, h1, _⟩
  · simp
  · exact h1

theorem run_append_bg {P : Program} (w : World) (t tx ty : TypeId) (i : TypeInfo) (z : Value) (h1 : P.underlying t = some (.slice 5)) (h2 : P.info? 5 = some i) (h3 : i.zero = some z) (h4 : i.size = 1) (h5 : i.bytes = 1) (h6 : z.cells.size = 1)
    (ao : Option Addr) (c : Nat) (l : List UInt8) (hO : OwnG w ao c l) (y : Value) (b : List UInt8) (hs : Src P 1 tx y b.length (bys b) w) (b1 : l.length + b.length ≤ maxLen) (b2 : l.length + b.length ≤ 140737488355328) :
    ∃ ao' c' w', (Builtin.append_ #[t, tx] ty #[.slice ao l.length c, y]).run P w = .ok (.slice ao' (l.length + b.length) c') w' ∧ OwnG w' ao' c' (l ++ b) ∧ Keeps (blks ao) w w' ∧ (∀ x ∈ blks ao', x ∈ blks ao ∨ w.heap.size ≤ x) := by
  have fin : ∀ (ao' : Option Addr), (∀ ad, ao' = some ad → ad.block ∈ blks ao ∨ w.heap.size ≤ ad.block) → ∀ x ∈ blks ao', x ∈ blks ao ∨ w.heap.size ≤ x := fun ao' h x hx => by
    cases ao' with
    | none => simp at hx
    | some ad =>
      simp only [blks, List.mem_singleton] at hx
      subst hx
      exact h ad rfl
  rcases hO with ⟨rfl, rfl, rfl⟩ | ⟨g, cur, rfl, hg, hnc, hcm, hcs, htk⟩
  · obtain ⟨ao', c', w', r1, r2, r3, r4⟩ := run_append_by (P := P) w 0 t tx ty 5 i z 1 1 h1 h2 h3 h4 h5 h6 none 0 0 [] (World.ownsRow_nil _ _ _ _) y b.length (bys b) hs b1 (by simpa using b2) (Nat.zero_le _)
    refine ⟨ao', c', w', r1, OwnG.of (N := 0) (Own.of (n := 0 + b.length) r2 (by simp)), r3, fin ao' r4⟩
  · by_cases hroom : l.length + b.length ≤ c
    · have hfit : l.length * 1 + (bys b).length ≤ cur.size := by simp; omega
      have hr := run_append_room_src (P := P) w t tx ty 5 i h1 h2 g 0 l.length c y b.length (bys b) (by rw [h4]; exact hs) hroom (by
        intro j hj
        rw [cell_of_row w g _ cur 5 (0, 0) hg, Array.getElem?_eq_getElem (by simp at hj; rw [h4]; omega)]
        rfl) (fun j _ => frozen_of_row w g _ cur 5 hg)
      rw [Nat.zero_add, h4] at hr
      obtain ⟨cur', g1, g2, g3⟩ := heap_setCells g 5 (bys b) (l.length * 1) cur w hg hfit
      refine ⟨_, _, _, hr, .inr ⟨g, cur', rfl, g1, by simpa using hroom, hcm, by omega, ?_⟩, ?_, fun x hx => .inl hx⟩
      · rw [List.length_append, bys_append, ← htk]
        simpa using g3
      · refine ⟨World.os_setCells w _ _ _, tape_setCells g (bys b) _ w, World.output_setCells w _ _ _, Nat.le_of_eq (size_setCells g (bys b) _ w).symm, fun k hk hn => World.heap_setCells_other w _ _ _ hk (by simpa using hn)⟩
    · have hold : (Builtin.firstCells i.size l.length (.slice (some ⟨g, 0, none⟩) l.length c)).run P w.drew = .ok (bys l).toArray w.drew := by
        refine run_firstCells_some w.drew i.size l.length ⟨g, 0, none⟩ l.length c (bys l) (by simp [h4]) ?_
        intro j u hj
        have hl := (List.getElem?_eq_some_iff.1 hj).1
        rw [← htk, List.getElem?_take, if_pos (by simpa using hl)] at hj
        rw [Addr.add_lit]
        have := cell_of_row w g (0 + j) cur 5 (0, 0) hg
        rw [Nat.zero_add] at this ⊢
        exact this.trans (by rw [← Array.getElem?_toList]; exact hj)
      have hb63 : ((l.length + b.length : Nat) : Int) ≤ 9223372036854775807 := by have := b1; unfold maxLen at this; omega
      have hr := run_append_grow_src (P := P) w t tx ty 5 i z h1 h2 h3 (some ⟨g, 0, none⟩) l.length c (bys l) hold y b.length (bys b) (by rw [h4]; exact hs) (by omega) hb63 (growslice_fits (by omega) (by rw [h5]; simpa using b2))
      refine ⟨_, _, _, hr, .inr ⟨w.heap.size, _, rfl, heap_alloc_new w.drew _, by have := grownCap_ge w (l.length + b.length) c 5; simpa using this, grownCap_le_maxLen w (l.length + b.length) c 5 b1, ?_, ?_⟩, ⟨rfl, rfl, rfl, by simp, fun k hk _ => Below.heap_alloc w.drew _ k hk⟩, fun x hx => ?_⟩
      · simp only [Array.size_append, List.size_toArray, List.length_append, bys_length, size_zeroCells, h6]
        have := grownCap_ge w (l.length + b.length) c 5
        omega
      · simp only [Array.toList_append, bys_append]
        rw [List.take_append_of_le_length (by simp)]
        rw [List.take_of_length_le (by simp)]
      · simp at hx
        subst hx
        exact .inr (Nat.le_refl _)

/-- an append onto such bytes -/
theorem wpList_append_bg {P : Program} (w : World) {ops : Array Oper} {rest : List Oper} {o : Oper} {a : Act} {Q : Exit → Act → World → Prop}
    (hg : o.guard = none) (s x : Operand) (t tx : TypeId) (hop : o.op = Op.call { callee := Callee.builtin Builtin.append, args := #[s, x], argTypes := #[t, tx] })
    (i : TypeInfo) (z : Value) (h1 : P.underlying t = some (.slice 5)) (h2 : P.info? 5 = some i) (h3 : i.zero = some z) (h4 : i.size = 1) (h5 : i.bytes = 1) (h6 : z.cells.size = 1)
    (ao : Option Addr) (c : Nat) (l : List UInt8) (hv : a.eval s = .slice ao l.length c) (hO : OwnG w ao c l) (y : Value) (hy : a.eval x = y) (b : List UInt8) (hs : Src P 1 tx y b.length (bys b) w)
    (b1 : l.length + b.length ≤ maxLen) (b2 : l.length + b.length ≤ 140737488355328)
    (hK : ∀ ao' c' w', OwnG w' ao' c' (l ++ b) → Keeps (blks ao) w w' → (∀ x ∈ blks ao', x ∈ blks ao ∨ w.heap.size ≤ x) → wpList P ops Q rest (a.put o.dst (.slice ao' (l.length + b.length) c')) w') :
    wpList P ops Q (o :: rest) a w := by
  refine wpList_plain hg fun K hK' => ?_
  obtain ⟨ao', c', w', hrun, hO', hk, hb⟩ := run_append_bg (P := P) w t tx o.type i z h1 h2 h3 h4 h5 h6 ao c l hO y b hs b1 b2
  unfold Oper.wp
  simp [execOp, hop, resolve, invoke, builtin, hv, hy, hrun, Result.andThen]
  exact hK' _ _ (hK ao' c' w' hO' hk hb)
end
end Go.Proofs.YtfgmbjdeimallaaGreatDoor
