/- Slices whose cells are known; append that grows, and append of nothing. -/
import Derived.Test.YtfgmbjdeimallaaGreatDoorBase
import Derived.Laws.AppendOwn
import Derived.ArgAppend
namespace Go.Proofs.YtfgmbjdeimallaaGreatDoor
open Go.RowKit

/-- the slice (ao, n, c), of elements of sz cells, has the cells xs -/
structure Sl (w : World) (sz : Nat) (ao : Option Addr) (n c : Nat) (xs : List Value) : Prop where
  len : xs.length = n * sz
  cap : n ≤ c
  most : c ≤ maxLen
  nil : ao = none → c = 0
  spot : 0 < c → ∀ ad, ao = some ad → ad.spot = none
  cell : ∀ ad, ao = some ad → ∀ j u, xs[j]? = some u → w.cell? ⟨ad.block, ad.off + j, none⟩ = some u
  one : ∀ u ∈ xs, u.oneCell' = true

section
variable {w w' : World} {sz : Nat} {ao : Option Addr} {n c : Nat} {xs : List Value} {L : List Nat}

theorem addr_add {ad : Addr} (h : ad.spot = none) (j : Nat) : ad.add j = ⟨ad.block, ad.off + j, none⟩ := by
  cases ad with
  | mk b o s => cases h; exact Addr.add_lit b o j

theorem Sl.cells (h : Sl w sz ao n c xs) {ad : Addr} (ha : ao = some ad) : ∀ j u, xs[j]? = some u → w.cell? (ad.add j) = some u := by
  intro j u hj
  have hc : 0 < c := by
    have h1 := (List.getElem?_eq_some_iff.1 hj).1
    rw [h.len] at h1
    have h2 := h.cap
    rcases Nat.eq_zero_or_pos n with rfl | hp
    · simp at h1
    · omega
  rw [addr_add (h.spot hc ad ha)]
  exact h.cell ad ha j u hj

theorem Sl.none (w : World) (sz : Nat) : Sl w sz none 0 0 [] :=
  ⟨by simp, Nat.le_refl _, Nat.zero_le _, fun _ => rfl, fun _ _ h => by simp at h, fun _ h => by simp at h, fun _ h => by simp at h⟩

theorem Sl.keep (h : Sl w sz ao n c xs) (hk : Keeps L w w') (hL : ∀ ad, ao = some ad → xs ≠ [] → ad.block ∉ L) : Sl w' sz ao n c xs :=
  ⟨h.len, h.cap, h.most, h.nil, h.spot, fun ad ha j u hj => hk.cellSome (h.cell ad ha j u hj) (hL ad ha (by rintro rfl; simp at hj)), h.one⟩

theorem Sl.keep0 (h : Sl w sz ao n c xs) (hk : Keeps [] w w') : Sl w' sz ao n c xs := h.keep hk (fun _ _ _ => by simp)

theorem Sl.lt (h : Sl w sz ao n c xs) {ad : Addr} (ha : ao = some ad) (hx : xs ≠ []) : ad.block < w.heap.size := by
  cases xs with
  | nil => exact absurd rfl hx
  | cons x xs => exact block_lt_of_cell (a := ⟨ad.block, ad.off + 0, Option.none⟩) (h.cell ad ha 0 x rfl)

/-- a slice with elements has an address -/
theorem Sl.at (h : Sl w sz ao n c xs) (hn : 0 < c) : ∃ b o, ao = some ⟨b, o, Option.none⟩ := by
  cases ao with
  | none => have := h.nil rfl; omega
  | some ad =>
    cases ad with
    | mk b o s =>
      have := h.spot hn _ rfl
      simp only at this
      subst this
      exact ⟨b, o, rfl⟩

/-- a block that is known whole, as a slice -/
theorem Sl.of_blk {b : Nat} {t : TypeId} {cs : Array Value} (h : Blk w b t cs) (hs : cs.size = n * sz) (hm : n ≤ maxLen) (h1 : ∀ u ∈ cs.toList, u.oneCell' = true) : Sl w sz (some ⟨b, 0, Option.none⟩) n n cs.toList := by
  refine ⟨by simpa using hs, Nat.le_refl _, hm, fun e => by simp at e, fun _ ad e => by cases e; rfl, ?_, h1⟩
  intro ad e j u hj
  cases e
  have := h.cell (0 + j)
  rw [this, Nat.zero_add, ← Array.getElem?_toList]
  exact hj

/-- from the k-th element on -/
theorem Sl.drop (h : Sl w sz ao n c xs) {k : Nat} (hk : k ≤ n) : Sl w sz (if c = k then ao else ao.map (·.add (k * sz))) (n - k) (c - k) (xs.drop (k * sz)) := by
  refine ⟨by rw [List.length_drop, h.len, Nat.sub_mul], by have := h.cap; omega, by have := h.most; omega, ?_, ?_, ?_, fun u hu => h.one u (List.mem_of_mem_drop hu)⟩
  · intro e
    split at e
    · omega
    · cases ao with
      | none => have := h.nil rfl; omega
      | some ad => simp at e
  · intro hck ad e
    split at e
    · omega
    · cases ao with
      | none => simp at e
      | some a0 =>
        simp only [Option.map_some, Option.some.injEq] at e
        subst e
        rw [addr_add (h.spot (by omega) a0 rfl)]
  · intro ad e j u hj
    rw [List.getElem?_drop] at hj
    split at e
    · rename_i hc
      have hl := (List.getElem?_eq_some_iff.1 hj).1
      rw [h.len] at hl
      have : n * sz ≤ k * sz := Nat.mul_le_mul_right _ (by have := h.cap; omega)
      omega
    · cases ao with
      | none => simp at e
      | some a0 =>
        simp only [Option.map_some, Option.some.injEq] at e
        subst e
        rw [addr_add (h.spot (by have := h.cap; omega) a0 rfl)]
        have := h.cell a0 rfl _ u hj
        simpa [Nat.add_assoc] using this

/-- the first k elements; the capacity may be cut -/
theorem Sl.take (h : Sl w sz ao n c xs) {k c' : Nat} (hk : k ≤ n) (hc : k ≤ c') (hc' : c' ≤ c) : Sl w sz ao k c' (xs.take (k * sz)) := by
  refine ⟨?_, hc, by have := h.most; omega, fun e => by have := h.nil e; omega, fun h0 => h.spot (by omega), ?_, fun u hu => h.one u (List.mem_of_mem_take hu)⟩
  · rw [List.length_take, h.len]
    exact Nat.min_eq_left (Nat.mul_le_mul_right _ hk)
  · intro ad e j u hj
    rw [List.getElem?_take] at hj
    split at hj
    · exact h.cell ad e j u hj
    · cases hj

theorem Keeps.grown {w0 : World} {v : Value} (h : Keeps L w0 w) (hg : w.grownBy w' v.ownBlock) (hb : ∀ k, v.ownBlock = some k → k ∈ L ∨ w0.heap.size ≤ k) : Keeps L w0 w' :=
  ⟨hg.os.trans h.os, hg.tape.trans h.tape, hg.output.trans h.output, Nat.le_trans h.size hg.size, fun i hi hn => (hg.block i (Nat.lt_of_lt_of_le hi h.size) (fun e => by
    rcases hb i e.symm with h1 | h1
    · exact hn h1
    · omega)).trans (h.block i hi hn)⟩

theorem Keeps.grown0 {w0 : World} (h : Keeps L w0 w) (hg : w.grownBy w' none) : Keeps L w0 w' :=
  Keeps.grown (v := .slice Option.none 0 0) h hg (fun _ e => by cases e)

/-- what is owned is a slice -/
theorem own_sl {base : Nat} {e : TypeId} {v : Value} (h : w.ownsRow base e sz v n xs) (h1 : ∀ u ∈ xs, u.oneCell' = true) :
    ∃ ao c, v = .slice ao n c ∧ Sl w sz ao n c xs ∧ ∀ ad, ao = some ad → base ≤ ad.block ∧ ad.block < w.heap.size := by
  have hlt := h.lt
  rcases h.2 with ⟨rfl, rfl⟩ | ⟨g, cap, cur, rfl, hb, hg, hn, hm, hs, ht⟩
  · have : xs = [] := List.eq_nil_of_length_eq_zero (by simpa using h.1)
    subst this
    exact ⟨_, _, rfl, Sl.none w sz, fun _ e => by simp at e⟩
  · refine ⟨_, _, rfl, ⟨h.1, hn, hm, fun e => by simp at e, ?_, ?_, h1⟩, ?_⟩
    · intro _ ad e; cases e; rfl
    · intro ad e j u hj
      cases e
      have := h.cells (g := g) rfl j u hj
      rwa [Addr.add_lit] at this
    · intro ad e
      cases e
      exact hlt g rfl

end

/-- an append that must grow -/
theorem wpList_append_sl {P : Program} (w : World) {ops : Array Oper} {rest : List Oper} {o : Oper} {a : Act} {Q : Exit → Act → World → Prop}
    (hg : o.guard = none) (s x : Operand) (t : TypeId) (hop : o.op = Op.call { callee := Callee.builtin Builtin.append, args := #[s, x], argTypes := #[t, t] })
    (e : TypeId) (i : TypeInfo) (z : Value) (size bytes : Nat) (h1 : P.underlying t = some (.slice e)) (h2 : P.info? e = some i) (h3 : i.zero = some z) (h4 : i.size = size) (h5 : i.bytes = bytes) (h6 : z.cells.size = size) (h7 : 0 < size)
    (ao : Option Addr) (n c : Nat) (xs : List Value) (hs : a.eval s = .slice ao n c) (hS : Sl w size ao n c xs)
    (bo : Option Addr) (m d : Nat) (ys : List Value) (hx : a.eval x = .slice bo m d) (hT : Sl w size bo m d ys)
    (hfull : c < n + m) (b1 : n + m ≤ maxLen) (b2 : (n + m) * bytes ≤ 140737488355328)
    (hK : ∀ ao' c' w', Sl w' size ao' (n + m) c' (xs ++ ys) → (∀ ad, ao' = some ad → w.heap.size ≤ ad.block ∧ ad.block < w'.heap.size) → Keeps [] w w' → wpList P ops Q rest (a.put o.dst (.slice ao' (n + m) c')) w') :
    wpList P ops Q (o :: rest) a w := by
  have hm : 0 < d := by have := hS.cap; have := hT.cap; omega
  obtain ⟨b2', o2, rfl⟩ := hT.at hm
  refine wpList_append_grows w hg s x t hop e i z size bytes h1 h2 h3 h4 h5 h6 h7 ao n c xs hs (fun e => by have := hS.nil e; have := hS.cap; omega) hS.len (fun b hb => hS.cells hb) ⟨b2', o2, none⟩ m d ys hx hT.len (hT.cells rfl) hT.one hfull b1 b2 ?_
  intro v' w' ho hgr
  obtain ⟨ao', c', rfl, hS', hb⟩ := own_sl ho (by
    intro u hu
    rcases List.mem_append.1 hu with hu | hu
    · exact hS.one u hu
    · exact hT.one u hu)
  exact hK ao' c' w' hS' hb ((Keeps.refl [] w).grown0 hgr)

/-- the same as a run -/
theorem run_append_sl {P : Program} (w : World) (t ty : TypeId)
    (e : TypeId) (i : TypeInfo) (z : Value) (size bytes : Nat) (h1 : P.underlying t = some (.slice e)) (h2 : P.info? e = some i) (h3 : i.zero = some z) (h4 : i.size = size) (h5 : i.bytes = bytes) (h6 : z.cells.size = size) (h7 : 0 < size)
    (ao : Option Addr) (n c : Nat) (xs : List Value) (hS : Sl w size ao n c xs)
    (bo : Option Addr) (m d : Nat) (ys : List Value) (hT : Sl w size bo m d ys)
    (hfull : c < n + m) (b1 : n + m ≤ maxLen) (b2 : (n + m) * bytes ≤ 140737488355328) :
    ∃ ao' c' w', (Builtin.append_ #[t, t] ty #[.slice ao n c, .slice bo m d]).run P w = .ok (.slice ao' (n + m) c') w' ∧ Sl w' size ao' (n + m) c' (xs ++ ys) ∧ (∀ ad, ao' = some ad → w.heap.size ≤ ad.block ∧ ad.block < w'.heap.size) ∧ Keeps [] w w' := by
  have hm : 0 < d := by have := hS.cap; have := hT.cap; omega
  obtain ⟨b2', o2, rfl⟩ := hT.at hm
  have h1c : ∀ u ∈ xs ++ ys, u.oneCell' = true := by
    intro u hu
    rcases List.mem_append.1 hu with hu | hu
    · exact hS.one u hu
    · exact hT.one u hu
  cases ao with
  | some b =>
    obtain ⟨v', w', hrun, r1, r2⟩ := run_append_arg_grows (P := P) w t ty e i z size bytes h1 h2 h3 h4 h5 h6 h7 b n c xs hS.len (hS.cells rfl) ⟨b2', o2, none⟩ m d ys hT.len (hT.cells rfl) hfull b1 b2
    obtain ⟨ao', c', rfl, hS', hb⟩ := own_sl r1 h1c
    exact ⟨ao', c', w', hrun, hS', hb, (Keeps.refl [] w).grown0 r2⟩
  | none =>
    obtain rfl := hS.nil rfl
    obtain rfl : n = 0 := by have := hS.cap; omega
    obtain rfl : xs = [] := List.eq_nil_of_length_eq_zero (by simpa using hS.len)
    obtain ⟨v', w', hrun, r1, r2, _⟩ := run_append_own (P := P) w w.heap.size t ty e i z size bytes h1 h2 h3 h4 h5 h6 h7 (.slice none 0 0) 0 [] (World.ownsRow_nil w _ e size) ⟨b2', o2, none⟩ m d ys hT.len (hT.cells rfl) hT.one b1 b2 (Nat.le_refl _)
    obtain ⟨ao', c', rfl, hS', hb⟩ := own_sl r1 h1c
    exact ⟨ao', c', w', hrun, hS', hb, (Keeps.refl [] w).grown0 r2⟩

/-- the same as one step of a region that draws -/
theorem step_append_sl {P : Program} {ops : Array Oper} {o : Oper} {a : Act} {w : World} {K : Act → World → Prop} {Q : Exit → Act → World → Prop} {E : Prop}
    (hg : o.guard = none) (s x : Operand) (t : TypeId) (hop : o.op = Op.call { callee := Callee.builtin Builtin.append, args := #[s, x], argTypes := #[t, t] })
    (e : TypeId) (i : TypeInfo) (z : Value) (size bytes : Nat) (h1 : P.underlying t = some (.slice e)) (h2 : P.info? e = some i) (h3 : i.zero = some z) (h4 : i.size = size) (h5 : i.bytes = bytes) (h6 : z.cells.size = size) (h7 : 0 < size)
    (ao : Option Addr) (n c : Nat) (xs : List Value) (hs : a.eval s = .slice ao n c) (hS : Sl w size ao n c xs)
    (bo : Option Addr) (m d : Nat) (ys : List Value) (hx : a.eval x = .slice bo m d) (hT : Sl w size bo m d ys)
    (hfull : c < n + m) (b1 : n + m ≤ maxLen) (b2 : (n + m) * bytes ≤ 140737488355328)
    (hK : ∀ ao' c' w', Sl w' size ao' (n + m) c' (xs ++ ys) → (∀ ad, ao' = some ad → w.heap.size ≤ ad.block ∧ ad.block < w'.heap.size) → Keeps [] w w' → K (a.put o.dst (.slice ao' (n + m) c')) w') :
    if Region.wanted o (yielded ops a.tmps) = true then Oper.wp P o a w K Q else E := by
  have hw : Region.wanted o (yielded ops a.tmps) = true := by simp [Region.wanted, hg]
  rw [if_pos hw]
  obtain ⟨ao', c', w', hrun, hS', hb, hk⟩ := run_append_sl (P := P) w t o.type e i z size bytes h1 h2 h3 h4 h5 h6 h7 ao n c xs hS bo m d ys hT hfull b1 b2
  unfold Oper.wp
  simp [execOp, hop, resolve, invoke, builtin, hs, hx, hrun, Result.andThen]
  exact hK ao' c' w' hS' hb hk

/-- an append of nothing -/
theorem wpList_append_zero {P : Program} (w : World) {ops : Array Oper} {rest : List Oper} {o : Oper} {a : Act} {Q : Exit → Act → World → Prop}
    (hg : o.guard = none) (s x : Operand) (t : TypeId) (hop : o.op = Op.call { callee := Callee.builtin Builtin.append, args := #[s, x], argTypes := #[t, t] })
    (e : TypeId) (i : TypeInfo) (h1 : P.underlying t = some (.slice e)) (h2 : P.info? e = some i)
    (ao : Option Addr) (n c : Nat) (hs : a.eval s = .slice ao n c) (hn : n ≤ c)
    (bo : Option Addr) (d : Nat) (hx : a.eval x = .slice bo 0 d)
    (hK : wpList P ops Q rest (a.put o.dst (.slice ao n c)) w) :
    wpList P ops Q (o :: rest) a w := by
  refine wpList_plain hg fun K hK' => ?_
  have hrun : (Builtin.append_ #[t, t] o.type #[.slice ao n c, .slice bo 0 d]).run P w = .ok (.slice ao n c) w := by
    cases ao <;> cases bo <;> simp [Builtin.append_, run_underlying h1, sizeOf, typeInfo, h2, Builtin.lenOf, Builtin.firstCells, loadCells, loadCellsFrom, storeCells, hn]
  unfold Oper.wp
  simp [execOp, hop, resolve, invoke, builtin, hs, hx, hrun, Result.andThen]
  exact hK' _ _ hK

#print axioms wpList_append_sl
#print axioms wpList_append_zero
end Go.Proofs.YtfgmbjdeimallaaGreatDoor
