/- TreeWalks: the law's marks; what is in the tree. -/
import Derived.Test.YthibgaagfdgmmaaTr30

namespace Go.Proofs.Ythibgaagfdgmmaa
open Go.RowKit Go.Lib

section
variable {P : Program} {w : World} {ops : Array Oper} {rest : List Oper} {o : Oper} {a : Act} {Q : Exit → Act → World → Prop}
theorem wpList_alloc0 (hg : o.guard = none) (t : TypeId) (ho : o.op = .alloc t) (i : TypeInfo) (z : Value) (hi : P.info? t = some i) (hz : i.zero = some z)
    (h : wpList P ops Q rest (a.put o.dst (.pointer (some ⟨w.heap.size, 0, none⟩))) (w.alloc (.cells z.cells t))) : wpList P ops Q (o :: rest) a w := by
  refine wpList_plain hg fun K hK => ?_
  have e : (Instr.alloc t true (.tuple #[])).run P w = .ok (.pointer (some ⟨w.heap.size, 0, none⟩)) (w.alloc (.cells z.cells t)) := by
    simp [Instr.alloc, zeroValue, typeInfo, newVar, hi, hz, go_sem]
  unfold Oper.wp
  simp [execOp, ho, e, Result.andThen]
  exact hK _ _ h
end

/-- the law's marks -/
def HasAt (w : World) (hb : Nat) (f : Nat → Bool) : Prop := ∃ cs, Blk w hb 27 cs ∧ cs.size = 1024 ∧ ∀ k, k < 1024 → cs[k]? = some (.bool (f k))
def setf (f : Nat → Bool) (k : Nat) (b : Bool) : Nat → Bool := fun j => if j = k then b else f j
section
variable {w w' : World} {hb : Nat} {f : Nat → Bool} {L : List Nat}
theorem HasAt.keep (h : HasAt w hb f) (hk : Keeps L w w') (hb' : hb ∉ L) : HasAt w' hb f := by
  obtain ⟨cs, h1, h2, h3⟩ := h
  exact ⟨cs, h1.keep hk hb', h2, h3⟩
theorem HasAt.keep0 (h : HasAt w hb f) (hk : Keeps [] w w') : HasAt w' hb f := h.keep hk (by simp)
theorem HasAt.lt (h : HasAt w hb f) : hb < w.heap.size := by obtain ⟨cs, h1, _⟩ := h; exact h1.lt
theorem HasAt.cell (h : HasAt w hb f) {k : Nat} (hk : k < 1024) : w.cell? ⟨hb, k, none⟩ = some (.bool (f k)) := by
  obtain ⟨cs, h1, _, h3⟩ := h
  rw [h1.cell]
  exact h3 k hk
theorem HasAt.free (h : HasAt w hb f) (k : Nat) : w.frozen? ⟨hb, k, none⟩ = false := by obtain ⟨cs, h1, _⟩ := h; exact h1.free k
theorem HasAt.put (h : HasAt w hb f) (k : Nat) (b : Bool) : HasAt (w.setCell ⟨hb, k, none⟩ (.bool b)) hb (setf f k b) := by
  obtain ⟨cs, h1, h2, h3⟩ := h
  refine ⟨cs.setIfInBounds k (.bool b), h1.put k _, by simpa using h2, fun j hj => ?_⟩
  rw [Array.getElem?_setIfInBounds]
  unfold setf
  by_cases e : k = j
  · subst e
    simp [h2, hj]
  · rw [if_neg e, if_neg (fun h => e h.symm)]
    exact h3 j hj
end
def isF : Value → Bool
  | .bool false => true
  | _ => false
theorem isF_eq {v : Value} (h : isF v = true) : v = .bool false := by
  unfold isF at h
  split at h
  · rfl
  · cases h
theorem infoH : ∃ i z, Try.prog.info? 27 = some i ∧ i.zero = some z ∧ z.cells.size = 1024 ∧ ∀ k, k < 1024 → z.cells[k]? = some (.bool false) := by
  have h : (Try.prog.info? 27).map (fun i => (i.zero.map fun z => (z.cells.size, z.cells.toList.all isF))) = some (some (1024, true)) := by kernel_rfl
  obtain ⟨i, hi, hx⟩ := Option.map_eq_some_iff.1 h
  obtain ⟨z, hz, hc⟩ := Option.map_eq_some_iff.1 hx
  simp only [Prod.mk.injEq] at hc
  refine ⟨i, z, hi, hz, hc.1, fun k hk => ?_⟩
  have hl : k < z.cells.size := by rw [hc.1]; exact hk
  have hm : z.cells[k] ∈ z.cells.toList := Array.mem_toList_iff.2 (Array.getElem_mem hl)
  rw [Array.getElem?_eq_getElem hl, isF_eq (List.all_eq_true.1 hc.2 _ hm)]

/-- keys and marks are alike -/
def WInv (l : List KV) (f : Nat → Bool) : Prop := (∀ p ∈ l, ∃ n, n < 1024 ∧ p.1 = num n ∧ f n = true) ∧ ∀ n, n < 1024 → f n = true → ∃ p ∈ l, p.1 = num n
theorem WInv.nil : WInv [] fun _ => false := ⟨by simp, by simp⟩
theorem WInv.has {l : List KV} {f : Nat → Bool} (h : WInv l f) {n : Nat} (hn : n < 1024) : has (num n) l = f n := by
  cases hf : f n with
  | true =>
    obtain ⟨p, hp, e⟩ := h.2 n hn hf
    exact has_iff.2 ⟨p, hp, e⟩
  | false =>
    cases hh : Go.Proofs.Ythibgaagfdgmmaa.has (num n) l with
    | false => rfl
    | true =>
      obtain ⟨p, hp, e⟩ := has_iff.1 hh
      obtain ⟨m, hm, e2, hfm⟩ := h.1 p hp
      rw [e] at e2
      have := num_inj (by omega) (by omega) e2
      subst this
      rw [hf] at hfm
      cases hfm
theorem WInv.put {l : List KV} {f : Nat → Bool} (h : WInv l f) {n : Nat} (hn : n < 1024) (v : Bs) : WInv (ins (num n) v l) (setf f n true) := by
  refine ⟨fun p hp => ?_, fun j hj hf => ?_⟩
  · rcases mem_ins.1 hp with rfl | ⟨hp, _⟩
    · exact ⟨n, hn, rfl, by simp [setf]⟩
    · obtain ⟨m, hm, e, hf⟩ := h.1 p hp
      exact ⟨m, hm, e, by unfold setf; split <;> simp [hf]⟩
  · by_cases e : j = n
    · subst e
      exact ⟨(num j, v), mem_ins.2 (.inl rfl), rfl⟩
    · unfold setf at hf
      rw [if_neg e] at hf
      obtain ⟨p, hp, e2⟩ := h.2 j hj hf
      refine ⟨p, mem_ins.2 (.inr ⟨hp, fun e3 => e ?_⟩), e2⟩
      rw [e2] at e3
      exact num_inj (by omega) (by omega) e3
theorem WInv.del {l : List KV} {f : Nat → Bool} (h : WInv l f) {n : Nat} (hn : n < 1024) : WInv (del (num n) l) (setf f n false) := by
  refine ⟨fun p hp => ?_, fun j hj hf => ?_⟩
  · obtain ⟨hp, hne⟩ := mem_del.1 hp
    obtain ⟨m, hm, e, hf⟩ := h.1 p hp
    refine ⟨m, hm, e, ?_⟩
    unfold setf
    rw [if_neg (fun e2 => hne (by rw [e, e2]))]
    exact hf
  · unfold setf at hf
    by_cases e : j = n
    · rw [if_pos e] at hf; cases hf
    · rw [if_neg e] at hf
      obtain ⟨p, hp, e2⟩ := h.2 j hj hf
      refine ⟨p, mem_del.2 ⟨hp, fun e3 => e ?_⟩, e2⟩
      rw [e2] at e3
      exact num_inj (by omega) (by omega) e3
/-- a cursor's place, among numbers -/
def Place (k : Bs) (ab : Bool) (st : Nat) : Prop := ∀ j, j < 1024 → (from_ k ab (num j) ↔ st ≤ j)
theorem place_at {n : Nat} (hn : n < 1024) : Place (num n) false n := fun j hj => by
  unfold from_
  constructor
  · rintro ⟨h, _⟩
    refine Nat.le_of_not_lt fun hlt => ?_
    rw [(num_lt (by omega) (by omega)).2 hlt] at h
    cases h
  · intro h
    refine ⟨?_, by simp⟩
    cases hh : ltB (num j) (num n) with
    | false => rfl
    | true => have := (num_lt (by omega) (by omega)).1 hh; omega
theorem place_above {n : Nat} (hn : n < 1024) : Place (num n) true (n + 1) := fun j hj => by
  rw [from_hi, num_lt (by omega) (by omega)]
  omega
theorem walk_none {l : List KV} {f : Nat → Bool} {k : Bs} {ab : Bool} {st : Nat} (hW : WInv l f) (hp : Place k ab st) (h : nxt k ab l = none) : ∀ j, st ≤ j → j < 1024 → f j = false := fun j h1 h2 => by
  cases hf : f j with
  | false => rfl
  | true =>
    obtain ⟨p, hm, e⟩ := hW.2 j h2 hf
    exact absurd ((hp j h2).2 h1) (by rw [← e]; exact nxt_none h p hm)
theorem walk_some {l : List KV} {f : Nat → Bool} {k k' v' : Bs} {ab : Bool} {st : Nat} (hW : WInv l f) (hs : Srt l) (hp : Place k ab st) (h : nxt k ab l = some (k', v')) :
    ∃ n, n < 1024 ∧ k' = num n ∧ f n = true ∧ st ≤ n ∧ ∀ j, st ≤ j → j < n → f j = false := by
  obtain ⟨h1, h2, h3⟩ := nxt_some hs h
  obtain ⟨n, hn, e, hf⟩ := hW.1 _ h1
  simp only at e
  refine ⟨n, hn, e, hf, (hp n hn).1 (by rw [← e]; exact h2), fun j hj1 hj2 => ?_⟩
  cases hfj : f j with
  | false => rfl
  | true =>
    obtain ⟨p, hm, e2⟩ := hW.2 j (by omega) hfj
    rcases h3 p hm (by rw [e2]; exact (hp j (by omega)).2 hj1) with h4 | h4
    · rw [h4] at e2
      simp only at e2
      rw [e] at e2
      have := num_inj (by omega) (by omega) e2
      omega
    · simp only at h4
      rw [e2, e, num_lt (by omega) (by omega)] at h4
      omega
end Go.Proofs.Ythibgaagfdgmmaa
