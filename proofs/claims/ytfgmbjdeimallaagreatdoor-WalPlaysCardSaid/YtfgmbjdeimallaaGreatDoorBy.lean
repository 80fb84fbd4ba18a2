/- Slices that a function owns: append of whatever source onto them; bytes. -/
import Derived.Test.YtfgmbjdeimallaaGreatDoorSl
import Derived.Deep.AppendSrc
import Derived.Deep.Upon
namespace Go.Proofs.YtfgmbjdeimallaaGreatDoor
open Go.RowKit

/-- the block of an address -/
abbrev blks : Option Addr → List Nat
  | none => []
  | some ad => [ad.block]

theorem heap_setCells (g : Nat) (e : TypeId) : ∀ (vs : List Value) (o : Nat) (cur : Array Value) (w : World), w.heap[g]? = some (.cells cur e (0, 0)) → o + vs.length ≤ cur.size →
    ∃ cur', (w.setCells g o vs).heap[g]? = some (.cells cur' e (0, 0)) ∧ cur'.size = cur.size ∧ cur'.toList.take (o + vs.length) = cur.toList.take o ++ vs
  | [], o, cur, w, h, _ => ⟨cur, h, rfl, by simp⟩
  | v :: r, o, cur, w, h, hl => by
    simp only [List.length_cons] at hl
    obtain ⟨cur', h1, h2, h3⟩ := heap_setCells g e r (o + 1) (cur.setIfInBounds o v) (w.setCell ⟨g, o, none⟩ v) (heap_setCell_same w g o cur e v h) (by simp; omega)
    refine ⟨cur', h1, by rw [h2]; simp, ?_⟩
    have e1 : o + (v :: r).length = o + 1 + r.length := by simp; omega
    rw [e1, h3]
    have e2 : (cur.setIfInBounds o v).toList.take (o + 1) = cur.toList.take o ++ [v] := by
      apply List.ext_getElem?
      intro j
      simp only [Array.toList_setIfInBounds, List.getElem?_take, List.getElem?_append, List.length_take, Array.length_toList]
      by_cases hj : j < o
      · rw [if_pos (by omega), if_pos (by omega), if_pos hj, List.getElem?_set_ne (by omega)]
      · by_cases hj2 : j = o
        · subst hj2
          rw [if_pos (by omega), if_neg (by omega), List.getElem?_set_self (by simp; omega)]
          simp [Nat.min_eq_left (show j ≤ cur.size by omega)]
        · rw [if_neg (by omega), if_neg (by omega)]
          rw [List.getElem?_eq_none (by simp; omega)]
    rw [e2]
    simp

theorem tape_setCells (g : Nat) : ∀ (vs : List Value) (o : Nat) (w : World), (w.setCells g o vs).tape = w.tape
  | [], _, _ => rfl
  | _ :: r, o, w => by rw [World.setCells, tape_setCells g r]; rfl
theorem size_setCells (g : Nat) : ∀ (vs : List Value) (o : Nat) (w : World), (w.setCells g o vs).heap.size = w.heap.size
  | [], _, _ => rfl
  | _ :: r, o, w => by rw [World.setCells, size_setCells g r]; simp

section
variable {P : Program}

theorem run_append_by (w : World) (N : Nat) (t tx ty e : TypeId) (i : TypeInfo) (z : Value) (size bytes : Nat) (h1 : P.underlying t = some (.slice e)) (h2 : P.info? e = some i) (h3 : i.zero = some z) (h4 : i.size = size) (h5 : i.bytes = bytes) (h6 : z.cells.size = size)
    (ao : Option Addr) (n c : Nat) (xs : List Value) (hO : w.ownsRow N e size (.slice ao n c) n xs) (y : Value) (m : Nat) (news : List Value) (hs : Src P size tx y m news w) (b1 : n + m ≤ maxLen) (b2 : (n + m) * bytes ≤ 140737488355328) (hN : N ≤ w.heap.size) :
    ∃ ao' c' w', (Builtin.append_ #[t, tx] ty #[.slice ao n c, y]).run P w = .ok (.slice ao' (n + m) c') w' ∧ w'.ownsRow N e size (.slice ao' (n + m) c') (n + m) (xs ++ news) ∧ Keeps (blks ao) w w' ∧ (∀ ad, ao' = some ad → ad.block ∈ blks ao ∨ w.heap.size ≤ ad.block) := by
  subst h4
  subst h5
  have hlen : (xs ++ news).length = (n + m) * i.size := by rw [List.length_append, hO.1, hs.newsLen, Nat.add_mul]
  have hb63 : ((n + m : Nat) : Int) ≤ 9223372036854775807 := by have := b1; unfold maxLen at this; omega
  have grown : c < n + m → (Builtin.firstCells i.size n (.slice ao n c)).run P w.drew = .ok xs.toArray w.drew →
      ∃ ao' c' w', (Builtin.append_ #[t, tx] ty #[.slice ao n c, y]).run P w = .ok (.slice ao' (n + m) c') w' ∧ w'.ownsRow N e i.size (.slice ao' (n + m) c') (n + m) (xs ++ news) ∧ Keeps (blks ao) w w' ∧ (∀ ad, ao' = some ad → ad.block ∈ blks ao ∨ w.heap.size ≤ ad.block) := by
    intro hg hold
    have hr := run_append_grow_src (P := P) w t tx ty e i z h1 h2 h3 ao n c xs hold y m news hs hg hb63 (growslice_fits hg b2)
    refine ⟨_, _, _, hr, ⟨hlen, .inr ⟨w.heap.size, _, _, rfl, hN, heap_alloc_new w.drew _, grownCap_ge w (n + m) c e, grownCap_le_maxLen w (n + m) c e b1, ?_, ?_⟩⟩, ⟨rfl, rfl, rfl, by simp, fun k hk _ => Below.heap_alloc w.drew _ k hk⟩, ?_⟩
    · have := grownCap_ge w (n + m) c e
      simp only [Array.size_append, List.size_toArray, size_zeroCells, h6, hlen, ← Nat.add_mul]
      congr 1
      omega
    · simp only [Array.toList_append]
      rw [← hlen]
      exact List.take_left
    · intro ad he
      cases he
      exact .inr (Nat.le_refl _)
  rcases hO.2 with ⟨he, rfl⟩ | ⟨g, cap, cur, he, hbg, hg, hnc, hcm, hcs, htake⟩
  · simp only [Value.slice.injEq] at he
    obtain ⟨rfl, _, rfl⟩ := he
    obtain rfl : xs = [] := List.eq_nil_of_length_eq_zero (by simpa using hO.1)
    rcases Nat.eq_zero_or_pos m with rfl | hm
    · obtain rfl : news = [] := List.eq_nil_of_length_eq_zero (by simpa using hs.newsLen)
      refine ⟨none, 0, w, ?_, World.ownsRow_nil w N e i.size, Keeps.refl _ _, fun _ h => by cases h⟩
      have hc := hs.cells
      have hl := hs.len
      rcases hs.kind with ⟨e', hk⟩ | hk <;> simp [Builtin.append_, run_underlying h1, run_underlying hk, sizeOf, typeInfo, h2, hl, hc]
    · exact grown (by omega) (run_firstCells_none w.drew i.size 0 0 0)
  · simp only [Value.slice.injEq] at he
    obtain ⟨rfl, _, rfl⟩ := he
    by_cases hroom : n + m ≤ c
    · have hfit : n * i.size + news.length ≤ cur.size := by rw [hs.newsLen, hcs, ← Nat.add_mul]; exact Nat.mul_le_mul_right _ hroom
      have hr := run_append_room_src (P := P) w t tx ty e i h1 h2 g 0 n c y m news hs hroom (by
        intro j hj
        rw [cell_of_row w g _ cur e (0, 0) hg, Array.getElem?_eq_getElem (by omega)]
        rfl) (fun j _ => frozen_of_row w g _ cur e hg)
      rw [Nat.zero_add] at hr
      obtain ⟨cur', g1, g2, g3⟩ := heap_setCells g e news (n * i.size) cur w hg hfit
      refine ⟨_, _, _, hr, ⟨hlen, .inr ⟨g, c, cur', rfl, hbg, g1, hroom, hcm, by rw [g2, hcs], ?_⟩⟩, ?_, fun ad he => by cases he; exact .inl (by simp)⟩
      · rw [Nat.add_mul, ← hs.newsLen, g3, htake]
      · have hk := World.keptBut_setCells g (may := fun _ => True) news (n * i.size) w (fun _ _ => trivial)
        refine ⟨World.os_setCells w _ _ _, ?_, World.output_setCells w _ _ _, ?_, fun k hk hn => World.heap_setCells_other w _ _ _ hk (by simpa using hn)⟩
        · exact tape_setCells g news _ w
        · exact Nat.le_of_eq (size_setCells g news _ w).symm
    · refine grown (by omega) ?_
      exact run_firstCells_some w.drew i.size n ⟨g, 0, none⟩ n c xs hO.1 (by
        intro j u hj
        have := hO.cells (g := g) rfl j u hj
        simpa using this)

/-- an append onto what is owned -/
theorem wpList_append_by (w : World) {ops : Array Oper} {rest : List Oper} {o : Oper} {a : Act} {Q : Exit → Act → World → Prop}
    (hg : o.guard = none) (s x : Operand) (t tx : TypeId) (hop : o.op = Op.call { callee := Callee.builtin Builtin.append, args := #[s, x], argTypes := #[t, tx] })
    (N : Nat) (e : TypeId) (i : TypeInfo) (z : Value) (size bytes : Nat) (h1 : P.underlying t = some (.slice e)) (h2 : P.info? e = some i) (h3 : i.zero = some z) (h4 : i.size = size) (h5 : i.bytes = bytes) (h6 : z.cells.size = size)
    (ao : Option Addr) (n c : Nat) (xs : List Value) (hv : a.eval s = .slice ao n c) (hO : w.ownsRow N e size (.slice ao n c) n xs) (y : Value) (hy : a.eval x = y) (m : Nat) (news : List Value) (hs : Src P size tx y m news w)
    (b1 : n + m ≤ maxLen) (b2 : (n + m) * bytes ≤ 140737488355328) (hN : N ≤ w.heap.size)
    (hK : ∀ ao' c' w', w'.ownsRow N e size (.slice ao' (n + m) c') (n + m) (xs ++ news) → Keeps (blks ao) w w' → (∀ ad, ao' = some ad → ad.block ∈ blks ao ∨ w.heap.size ≤ ad.block) → wpList P ops Q rest (a.put o.dst (.slice ao' (n + m) c')) w') :
    wpList P ops Q (o :: rest) a w := by
  refine wpList_plain hg fun K hK' => ?_
  obtain ⟨ao', c', w', hrun, hO', hk, hb⟩ := run_append_by (P := P) w N t tx o.type e i z size bytes h1 h2 h3 h4 h5 h6 ao n c xs hO y m news hs b1 b2 hN
  unfold Oper.wp
  simp [execOp, hop, resolve, invoke, builtin, hv, hy, hrun, Result.andThen]
  exact hK' _ _ (hK ao' c' w' hO' hk hb)

/-- the same as one step of a region that draws -/
theorem step_append_by {ops : Array Oper} {o : Oper} {a : Act} {w : World} {K : Act → World → Prop} {Q : Exit → Act → World → Prop} {E : Prop}
    (hg : o.guard = none) (s x : Operand) (t tx : TypeId) (hop : o.op = Op.call { callee := Callee.builtin Builtin.append, args := #[s, x], argTypes := #[t, tx] })
    (N : Nat) (e : TypeId) (i : TypeInfo) (z : Value) (size bytes : Nat) (h1 : P.underlying t = some (.slice e)) (h2 : P.info? e = some i) (h3 : i.zero = some z) (h4 : i.size = size) (h5 : i.bytes = bytes) (h6 : z.cells.size = size)
    (ao : Option Addr) (n c : Nat) (xs : List Value) (hv : a.eval s = .slice ao n c) (hO : w.ownsRow N e size (.slice ao n c) n xs) (y : Value) (hy : a.eval x = y) (m : Nat) (news : List Value) (hs : Src P size tx y m news w)
    (b1 : n + m ≤ maxLen) (b2 : (n + m) * bytes ≤ 140737488355328) (hN : N ≤ w.heap.size)
    (hK : ∀ ao' c' w', w'.ownsRow N e size (.slice ao' (n + m) c') (n + m) (xs ++ news) → Keeps (blks ao) w w' → (∀ ad, ao' = some ad → ad.block ∈ blks ao ∨ w.heap.size ≤ ad.block) → K (a.put o.dst (.slice ao' (n + m) c')) w') :
    if Region.wanted o (yielded ops a.tmps) = true then Oper.wp P o a w K Q else E := by
  have hw : Region.wanted o (yielded ops a.tmps) = true := by simp [Region.wanted, hg]
  rw [if_pos hw]
  obtain ⟨ao', c', w', hrun, hO', hk, hb⟩ := run_append_by (P := P) w N t tx o.type e i z size bytes h1 h2 h3 h4 h5 h6 ao n c xs hO y m news hs b1 b2 hN
  unfold Oper.wp
  simp [execOp, hop, resolve, invoke, builtin, hv, hy, hrun, Result.andThen]
  exact hK ao' c' w' hO' hk hb
end

/-! bytes -/
/-- bytes, as cells -/
def bys (l : List UInt8) : List Value := l.map fun b => Value.int .u8 b.toNat
@[simp] theorem bys_length (l : List UInt8) : (bys l).length = l.length := by simp [bys]
theorem bys_append (l m : List UInt8) : bys (l ++ m) = bys l ++ bys m := by simp [bys]
theorem bys_one (l : List UInt8) : ∀ u ∈ bys l, u.oneCell' = true := by
  intro u hu
  obtain ⟨_, _, rfl⟩ := List.mem_map.1 hu
  rfl
theorem bys_string (s : ByteArray) : byteCells s = bys s.data.toList := rfl
theorem bys_at {l : List UInt8} {j : Nat} (h : j < l.length) : (bys l)[j]? = some (.int .u8 (l[j].toNat : Nat)) := by simp [bys, h]
theorem bys_inj {l m : List UInt8} (h : bys l = bys m) : l = m := by
  refine (List.map_inj_right ?_).1 h
  intro x y hxy
  simp only [Value.int.injEq, true_and] at hxy
  exact UInt8.toNat_inj.1 (by exact_mod_cast hxy)

theorem infoB : ∃ i z, Tryz.prog.info? 5 = some i ∧ i.zero = some z ∧ i.size = 1 ∧ i.bytes = 1 ∧ z.cells.size = 1 := by
  have h : (Tryz.prog.info? 5).map (fun i => (i.size, i.bytes, (i.zero.map fun z => z.cells.size))) = some (1, 1, some 1) := by kernel_rfl
  obtain ⟨i, hi, hx⟩ := Option.map_eq_some_iff.1 h
  simp only [Prod.mk.injEq] at hx
  obtain ⟨z, hz, hc⟩ := Option.map_eq_some_iff.1 hx.2.2
  exact ⟨i, z, hi, hz, hx.1, hx.2.1, hc⟩

/-- bytes that may be read -/
abbrev Rb (w : World) (ao : Option Addr) (c : Nat) (l : List UInt8) : Prop := Sl w 1 ao l.length c (bys l)
/-- bytes that are a function's own, made since N -/
def Own (w : World) (N : Nat) (ao : Option Addr) (c : Nat) (l : List UInt8) : Prop := w.ownsRow N 5 1 (.slice ao l.length c) l.length (bys l)

theorem Own.nil (w : World) (N : Nat) : Own w N none 0 [] := World.ownsRow_nil w N 5 1
theorem Own.rb {w : World} {N : Nat} {ao : Option Addr} {c : Nat} {l : List UInt8} (h : Own w N ao c l) : Rb w ao c l := by
  obtain ⟨ao', c', he, hS, _⟩ := own_sl h (bys_one l)
  simp only [Value.slice.injEq, true_and] at he
  obtain ⟨rfl, rfl⟩ := he
  exact hS
theorem Own.lt {w : World} {N : Nat} {ao : Option Addr} {c : Nat} {l : List UInt8} (h : Own w N ao c l) : ∀ x ∈ blks ao, N ≤ x ∧ x < w.heap.size := by
  intro x hx
  cases ao with
  | none => simp at hx
  | some ad =>
    simp only [blks, List.mem_singleton] at hx
    subst hx
    exact World.ownsRow.lt h _ rfl
theorem Own.keep {w w' : World} {N : Nat} {ao : Option Addr} {c : Nat} {l : List UInt8} {L : List Nat} (h : Own w N ao c l) (hk : Keeps L w w') (hL : ∀ x ∈ blks ao, x ∉ L) : Own w' N ao c l := by
  refine ⟨h.1, ?_⟩
  rcases h.2 with h0 | ⟨g, cap, cur, he, hb, hg, rest⟩
  · exact .inl h0
  · simp only [Value.slice.injEq] at he
    obtain ⟨rfl, _, rfl⟩ := he
    exact .inr ⟨g, c, cur, rfl, hb, (hk.block g (Array.getElem?_eq_some_iff.1 hg).1 (hL g (by simp))).trans hg, rest⟩
theorem Own.keep0 {w w' : World} {N : Nat} {ao : Option Addr} {c : Nat} {l : List UInt8} (h : Own w N ao c l) (hk : Keeps [] w w') : Own w' N ao c l := h.keep hk (by simp)
theorem Own.older {w : World} {N N' : Nat} {ao : Option Addr} {c : Nat} {l : List UInt8} (h : Own w N ao c l) (hN : N' ≤ N) : Own w N' ao c l := by
  refine ⟨h.1, ?_⟩
  rcases h.2 with h0 | ⟨g, cap, cur, he, hb, rest⟩
  · exact .inl h0
  · exact .inr ⟨g, cap, cur, he, Nat.le_trans hN hb, rest⟩
/-- a step that turns what is owned alone -/
theorem Keeps.own {w0 w w' : World} {ao : Option Addr} {c : Nat} {l : List UInt8} {L : List Nat} (h : Keeps L w0 w) (hk : Keeps (blks ao) w w') (hO : Own w w0.heap.size ao c l) : Keeps L w0 w' :=
  h.step hk fun x hx => .inr (hO.lt x hx).1
theorem Own.of {w : World} {N : Nat} {ao : Option Addr} {n c : Nat} {xs : List Value} {l : List UInt8} (h : w.ownsRow N 5 1 (.slice ao n c) n xs) (hl : xs = bys l) : Own w N ao c l := by
  subst hl
  have e : n = l.length := by have := h.1; simpa using this.symm
  subst e
  exact h
/-- what is read, as the source of an append -/
theorem Sl.src {w : World} {ao : Option Addr} {n c sz : Nat} {xs : List Value} {t e : TypeId} (h : Sl w sz ao n c xs) (hu : Tryz.prog.underlying t = some (.slice e)) : Src Tryz.prog sz t (.slice ao n c) n xs w := by
  cases ao with
  | some ad => exact Src.ofSlice w hu ad n c xs h.len (h.cells rfl) h.one
  | none =>
    obtain rfl := h.nil rfl
    obtain rfl : n = 0 := by have := h.cap; omega
    obtain rfl : xs = [] := List.eq_nil_of_length_eq_zero (by simpa using h.len)
    exact Src.ofNil w hu 0
/-- a literal of one byte -/
theorem rb1 {w : World} {b : Nat} {x : UInt8} (h : Blk w b 5 #[.int .u8 x.toNat]) : Rb w (some ⟨b, 0, none⟩) 1 [x] :=
  Sl.of_blk (n := 1) h rfl (by decide) (by intro u hu; simp at hu; subst hu; rfl)
end Go.Proofs.YtfgmbjdeimallaaGreatDoor
