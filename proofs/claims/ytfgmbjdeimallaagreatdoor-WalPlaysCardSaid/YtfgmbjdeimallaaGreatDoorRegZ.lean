/- A region that draws its order: a load may be taken first where no operation that can come ahead of it turns its cell; behind the operations that wait for all of these nothing is asked. -/
import Derived.Test.YtfgmbjdeimallaaGreatDoorBase
import Derived.OrdersHeld
namespace Go.Proofs.YtfgmbjdeimallaaGreatDoor
open Go.RowKit
section
variable {P : Program} {ops : Array Oper} {Q : Exit → Act → World → Prop} {md : Region.Mode} {S : World → Prop} {n0 : Nat}

/-- whatever order is picked from here on; S holds behind each of the first n0 operations -/
def wpAnyT (P : Program) (md : Region.Mode) (ops : Array Oper) (Q : Exit → Act → World → Prop) (S : World → Prop) (n0 : Nat) : Nat → Array Bool → Act → World → Prop
  | 0, listed, a, w => Region.ready md ops listed = [] ∧ Q .normal a w
  | f + 1, listed, a, w => (Region.ready md ops listed = [] → Q .normal a w) ∧
      ∀ i ∈ Region.ready md ops listed, wpOp P ops Q i (fun a' w' => (i < n0 → S w') ∧ wpAnyT P md ops Q S n0 f (listed.setIfInBounds i true) a' w') a w

theorem wpAnyT.any (f : Nat) : ∀ (listed : Array Bool) (a : Act) (w : World), wpAnyT P md ops Q S n0 f listed a w → wpAny P md ops Q f listed a w := by
  induction f with
  | zero => exact fun _ _ _ h => h
  | succ f ih => exact fun listed a w h => ⟨h.1, fun i hi => wpOp_mono (fun a' w' h' => ih _ a' w' h'.2) (h.2 i hi)⟩

/-- each operation from n0 on waits for all of the first n0 -/
def lateB (md : Region.Mode) (ops : Array Oper) (n0 : Nat) : Bool :=
  (List.range ops.size).all fun j => decide (j < n0) || (List.range n0).all fun i => match ops[j]? with
    | some o => o.after.any fun e => Region.binds md e && e.on == i
    | none => false

theorem lateB_spec (h : lateB md ops n0 = true) {j i : Nat} {o : Oper} (ho : ops[j]? = some o) (hj : n0 ≤ j) (hi : i < n0) : ∃ e ∈ o.after, Region.binds md e = true ∧ e.on = i := by
  have hjs : j < ops.size := by
    rcases Nat.lt_or_ge j ops.size with h' | h'
    · exact h'
    · rw [Array.getElem?_eq_none h'] at ho; cases ho
  have h1 := List.all_eq_true.1 h j (List.mem_range.2 hjs)
  rw [Bool.or_eq_true] at h1
  rcases h1 with h1 | h1
  · simp at h1; omega
  · have h2 := List.all_eq_true.1 h1 i (List.mem_range.2 hi)
    simp only [ho] at h2
    obtain ⟨e, he, hb⟩ := Array.any_eq_true'.1 h2
    simp only [Bool.and_eq_true, beq_iff_eq] at hb
    exact ⟨e, he, hb.1, hb.2⟩

theorem takeT_first (hl : lateB md ops n0 = true) {i : Nat} {oi : Oper} {v : Value} (hin : i < n0) (hi : ops[i]? = some oi) (hsel : ∀ (j : Nat) (o : Oper) cs b, ops[j]? = some o → o.op ≠ .select cs b)
    (hQ : ∀ c a w, Q (.panic c) (a.put oi.dst v) w → Q (.panic c) a w) (f : Nat) : ∀ (listed : Array Bool) (a : Act) (w : World),
      (∀ j oj, ops[j]? = some oj → j ≠ i → listed.getD j true = false → (∀ e ∈ oj.after, Region.binds md e = true → e.on ≠ i) → oi.apart ops oj = true) →
      i ∈ Region.ready md ops listed → YieldsIf P ops S oi v a → S w →
      wpAnyT P md ops Q S n0 f (listed.setIfInBounds i true) (a.put oi.dst v) w → wpAnyT P md ops Q S n0 (f + 1) listed a w := by
  induction f with
  | zero =>
    intro listed a w _ hr hy hS H
    refine ⟨fun h => absurd hr (by rw [h]; simp), fun j hj => ?_⟩
    by_cases hji : j = i
    · subst hji
      exact hy.wpOp hi hS ⟨fun _ => hS, H⟩
    · have := ready_mono hj hji
      rw [H.1] at this
      cases this
  | succ f ih =>
    intro listed a w hfree hr hy hS H
    refine ⟨fun h => absurd hr (by rw [h]; simp), fun j hj => ?_⟩
    by_cases hji : j = i
    · subst hji
      exact hy.wpOp hi hS ⟨fun _ => hS, H⟩
    obtain ⟨hjun, oj, hoj, hall⟩ := mem_ready.1 hj
    have hiun : listed.getD i false = false := by
      have h0 := (mem_ready.1 hr).1
      rcases Nat.lt_or_ge i listed.size with h' | h'
      · simp [h'] at h0 ⊢; exact h0
      · simp [Array.getElem?_eq_none h'] at h0
    have hnot : ∀ e ∈ oj.after, Region.binds md e = true → e.on ≠ i := by
      intro e he hb heq
      have h1' := hall e he hb
      rw [heq, hiun] at h1'
      cases h1'
    have hjn : j < n0 := by
      rcases Nat.lt_or_ge j n0 with h | h
      · exact h
      · obtain ⟨e, he, hb, hon⟩ := lateB_spec hl hoj h hin
        exact absurd hon (hnot e he hb)
    have h2 := wpOp_putIf hoj (hfree j oj hoj hji hjun hnot) (fun cs b => hsel i oi cs b hi) (fun cs b => hsel j oj cs b hoj) hQ hy (H.2 j (ready_mono hj hji))
    refine wpOp_mono (fun a' w' h3 => ⟨h3.2.1, ih (listed.setIfInBounds j true) a' w' ?_ (ready_mono hr (Ne.symm hji)) h3.1 (h3.2.1 hjn) ?_⟩) h2
    · intro k ok hk hki hun hno
      refine hfree k ok hk hki ?_ hno
      by_cases hjk : j = k
      · subst hjk; exact hjun
      · rw [getD_set_ne true hjk] at hun; exact hun
    · rw [Array.setIfInBounds_comm _ _ hji]
      exact h3.2.2

/-- number i is taken first -/
theorem takeT {i : Nat} {oi : Oper} {v : Value} {f : Nat} {listed : Array Bool} {a : Act} {w : World} (hi : ops[i]? = some oi) (hc : (lateB md ops n0 && decide (i < n0) && Region.noSelect ops && Region.free md ops listed i && (Region.ready md ops listed).contains i) = true)
    (hQ : ∀ c a w, Q (.panic c) (a.put oi.dst v) w → Q (.panic c) a w) (hy : YieldsIf P ops S oi v a) (hS : S w)
    (h : wpAnyT P md ops Q S n0 f (listed.setIfInBounds i true) (a.put oi.dst v) w) : wpAnyT P md ops Q S n0 (f + 1) listed a w := by
  simp only [Bool.and_eq_true, decide_eq_true_eq] at hc
  obtain ⟨⟨⟨⟨h1, h2⟩, h3⟩, h4⟩, h5⟩ := hc
  exact takeT_first h1 h2 hi (Region.noSelect_spec h3) hQ f listed a w (Region.free_spec hi h4) (by simpa using h5) hy hS h

/-- number i alone may come up -/
theorem oneT {i : Nat} {oi : Oper} {f : Nat} {listed : Array Bool} {a : Act} {w : World} (hi : ops[i]? = some oi) (hr : Region.ready md ops listed = [i])
    (h : ∀ K : Act → World → Prop, (∀ a' w', (i < n0 → S w') → wpAnyT P md ops Q S n0 f (listed.setIfInBounds i true) a' w' → K a' w') → if Region.wanted oi (yielded ops a.tmps) = true then oi.wp P a w K Q else K (a.put oi.dst undef) w) :
    wpAnyT P md ops Q S n0 (f + 1) listed a w := by
  refine ⟨fun h0 => absurd h0 (by rw [hr]; simp), fun j hj => ?_⟩
  rw [hr, List.mem_singleton] at hj
  subst hj
  have h' := h _ (fun a' w' h1 h2 => And.intro h1 h2)
  unfold wpOp
  simp only [hi]
  split
  · rename_i hw
    rw [if_pos hw] at h'
    exact .inl h'
  · rename_i hw
    rw [if_neg hw] at h'
    exact h'

/-- all have come up -/
theorem doneT {f : Nat} {listed : Array Bool} {a : Act} {w : World} (hr : Region.ready md ops listed = []) (h : Q .normal a w) : wpAnyT P md ops Q S n0 f listed a w := by
  cases f with
  | zero => exact ⟨hr, h⟩
  | succ f => exact ⟨fun _ => h, by rw [hr]; simp⟩

theorem startT {id : Nat} {a : Act} {w : World} (hm : P.follows .mixedOrders = true) (h : wpAnyT P .any ops Q S n0 ops.size (Array.replicate ops.size false) a w.drew) : (Code.region id ops true).wp P Q a w :=
  wp_region_any hm (wpAnyT.any _ _ _ _ h)
end
end Go.Proofs.YtfgmbjdeimallaaGreatDoor
/- A region that draws its order: a load may be taken first where no operation that can come ahead of it turns what it reads: each load says what it reads. -/
namespace Go.Proofs.YtfgmbjdeimallaaGreatDoor
open Go.RowKit
section
variable {P : Program} {ops : Array Oper} {Q : Exit → Act → World → Prop} {md : Region.Mode} {L : List (Nat × (World → Prop))}

/-- operation j waits for operation i -/
def waitsB (md : Region.Mode) (ops : Array Oper) (j i : Nat) : Bool := match ops[j]? with
  | some o => o.after.any fun e => Region.binds md e && e.on == i
  | none => true

theorem waits_absurd {x : Bool} {C : Prop} (h : x = false) (h' : x = true) : C := by rw [h] at h'; cases h'

/-- what operation i reads -/
def Reads (L : List (Nat × (World → Prop))) (i : Nat) (w : World) : Prop := ∀ p ∈ L, p.1 = i → p.2 w

/-- operation j keeps what those read that it does not wait for -/
def Spares (md : Region.Mode) (ops : Array Oper) (L : List (Nat × (World → Prop))) (j : Nat) (w w' : World) : Prop := ∀ p ∈ L, waitsB md ops j p.1 = false → p.2 w → p.2 w'

/-- whatever order is picked from here on -/
def wpAnyU (P : Program) (md : Region.Mode) (ops : Array Oper) (Q : Exit → Act → World → Prop) (L : List (Nat × (World → Prop))) : Nat → Array Bool → Act → World → Prop
  | 0, listed, a, w => Region.ready md ops listed = [] ∧ Q .normal a w
  | f + 1, listed, a, w => (Region.ready md ops listed = [] → Q .normal a w) ∧
      ∀ i ∈ Region.ready md ops listed, wpOp P ops Q i (fun a' w' => Spares md ops L i w w' ∧ wpAnyU P md ops Q L f (listed.setIfInBounds i true) a' w') a w

theorem wpAnyU.any (f : Nat) : ∀ (listed : Array Bool) (a : Act) (w : World), wpAnyU P md ops Q L f listed a w → wpAny P md ops Q f listed a w := by
  induction f with
  | zero => exact fun _ _ _ h => h
  | succ f ih => exact fun listed a w h => ⟨h.1, fun i hi => wpOp_mono (fun a' w' h' => ih _ a' w' h'.2) (h.2 i hi)⟩

theorem takeU_first {i : Nat} {oi : Oper} {v : Value} (hi : ops[i]? = some oi) (hsel : ∀ (j : Nat) (o : Oper) cs b, ops[j]? = some o → o.op ≠ .select cs b)
    (hQ : ∀ c a w, Q (.panic c) (a.put oi.dst v) w → Q (.panic c) a w) (f : Nat) : ∀ (listed : Array Bool) (a : Act) (w : World),
      (∀ j oj, ops[j]? = some oj → j ≠ i → listed.getD j true = false → (∀ e ∈ oj.after, Region.binds md e = true → e.on ≠ i) → oi.apart ops oj = true) →
      i ∈ Region.ready md ops listed → YieldsIf P ops (Reads L i) oi v a → Reads L i w →
      wpAnyU P md ops Q L f (listed.setIfInBounds i true) (a.put oi.dst v) w → wpAnyU P md ops Q L (f + 1) listed a w := by
  induction f with
  | zero =>
    intro listed a w _ hr hy hS H
    refine ⟨fun h => absurd hr (by rw [h]; simp), fun j hj => ?_⟩
    by_cases hji : j = i
    · subst hji
      exact hy.wpOp hi hS ⟨fun _ _ _ h => h, H⟩
    · have := ready_mono hj hji
      rw [H.1] at this
      cases this
  | succ f ih =>
    intro listed a w hfree hr hy hS H
    refine ⟨fun h => absurd hr (by rw [h]; simp), fun j hj => ?_⟩
    by_cases hji : j = i
    · subst hji
      exact hy.wpOp hi hS ⟨fun _ _ _ h => h, H⟩
    obtain ⟨hjun, oj, hoj, hall⟩ := mem_ready.1 hj
    have hiun : listed.getD i false = false := by
      have h0 := (mem_ready.1 hr).1
      rcases Nat.lt_or_ge i listed.size with h' | h'
      · simp [h'] at h0 ⊢; exact h0
      · simp [Array.getElem?_eq_none h'] at h0
    have hnot : ∀ e ∈ oj.after, Region.binds md e = true → e.on ≠ i := by
      intro e he hb heq
      have h1' := hall e he hb
      rw [heq, hiun] at h1'
      cases h1'
    have hwt : waitsB md ops j i = false := by
      unfold waitsB
      rw [hoj]
      rw [Array.any_eq_false']
      intro e he hb
      simp only [Bool.and_eq_true, beq_iff_eq] at hb
      exact hnot e he hb.1 hb.2
    have hsp : ∀ w', Spares md ops L j w w' → Reads L i w' := fun w' h p hp hpi => h p hp (by rw [hpi]; exact hwt) (hS p hp hpi)
    have h2 := wpOp_putIf hoj (hfree j oj hoj hji hjun hnot) (fun cs b => hsel i oi cs b hi) (fun cs b => hsel j oj cs b hoj) hQ hy (H.2 j (ready_mono hj hji))
    refine wpOp_mono (fun a' w' h3 => ⟨h3.2.1, ih (listed.setIfInBounds j true) a' w' ?_ (ready_mono hr (Ne.symm hji)) h3.1 (hsp _ h3.2.1) ?_⟩) h2
    · intro k ok hk hki hun hno
      refine hfree k ok hk hki ?_ hno
      by_cases hjk : j = k
      · subst hjk; exact hjun
      · rw [getD_set_ne true hjk] at hun; exact hun
    · rw [Array.setIfInBounds_comm _ _ hji]
      exact h3.2.2

/-- number i is taken first -/
theorem takeU {i : Nat} {oi : Oper} {v : Value} {f : Nat} {listed : Array Bool} {a : Act} {w : World} (hi : ops[i]? = some oi) (hc : (Region.noSelect ops && Region.free md ops listed i && (Region.ready md ops listed).contains i) = true)
    (hQ : ∀ c a w, Q (.panic c) (a.put oi.dst v) w → Q (.panic c) a w) (hy : YieldsIf P ops (Reads L i) oi v a) (hS : Reads L i w)
    (h : wpAnyU P md ops Q L f (listed.setIfInBounds i true) (a.put oi.dst v) w) : wpAnyU P md ops Q L (f + 1) listed a w := by
  simp only [Bool.and_eq_true] at hc
  obtain ⟨⟨h3, h4⟩, h5⟩ := hc
  exact takeU_first hi (Region.noSelect_spec h3) hQ f listed a w (Region.free_spec hi h4) (by simpa using h5) hy hS h

/-- number i alone may come up -/
theorem oneU {i : Nat} {oi : Oper} {f : Nat} {listed : Array Bool} {a : Act} {w : World} (hi : ops[i]? = some oi) (hr : Region.ready md ops listed = [i])
    (h : ∀ K : Act → World → Prop, (∀ a' w', Spares md ops L i w w' → wpAnyU P md ops Q L f (listed.setIfInBounds i true) a' w' → K a' w') → if Region.wanted oi (yielded ops a.tmps) = true then oi.wp P a w K Q else K (a.put oi.dst undef) w) :
    wpAnyU P md ops Q L (f + 1) listed a w := by
  refine ⟨fun h0 => absurd h0 (by rw [hr]; simp), fun j hj => ?_⟩
  rw [hr, List.mem_singleton] at hj
  subst hj
  have h' := h _ (fun a' w' h1 h2 => And.intro h1 h2)
  unfold wpOp
  simp only [hi]
  split
  · rename_i hw
    rw [if_pos hw] at h'
    exact .inl h'
  · rename_i hw
    rw [if_neg hw] at h'
    exact h'

/-- one of two may come up -/
theorem twoU {i j : Nat} {oi oj : Oper} {f : Nat} {listed : Array Bool} {a : Act} {w : World} (hi : ops[i]? = some oi) (hj : ops[j]? = some oj) (hr : Region.ready md ops listed = [i, j])
    (h : ∀ K : Act → World → Prop, (∀ a' w', Spares md ops L i w w' → wpAnyU P md ops Q L f (listed.setIfInBounds i true) a' w' → K a' w') → if Region.wanted oi (yielded ops a.tmps) = true then oi.wp P a w K Q else K (a.put oi.dst undef) w)
    (h' : ∀ K : Act → World → Prop, (∀ a' w', Spares md ops L j w w' → wpAnyU P md ops Q L f (listed.setIfInBounds j true) a' w' → K a' w') → if Region.wanted oj (yielded ops a.tmps) = true then oj.wp P a w K Q else K (a.put oj.dst undef) w) :
    wpAnyU P md ops Q L (f + 1) listed a w := by
  have one : ∀ (k : Nat) (ok : Oper), ops[k]? = some ok → (∀ K : Act → World → Prop, (∀ a' w', Spares md ops L k w w' → wpAnyU P md ops Q L f (listed.setIfInBounds k true) a' w' → K a' w') → if Region.wanted ok (yielded ops a.tmps) = true then ok.wp P a w K Q else K (a.put ok.dst undef) w) →
      wpOp P ops Q k (fun a' w' => Spares md ops L k w w' ∧ wpAnyU P md ops Q L f (listed.setIfInBounds k true) a' w') a w := by
    intro k ok hk hh
    have h1 := hh _ (fun a' w' h1 h2 => And.intro h1 h2)
    unfold wpOp
    simp only [hk]
    split
    · rename_i hw
      rw [if_pos hw] at h1
      exact .inl h1
    · rename_i hw
      rw [if_neg hw] at h1
      exact h1
  refine ⟨fun h0 => absurd h0 (by rw [hr]; simp), fun k hk => ?_⟩
  rw [hr] at hk
  simp only [List.mem_cons, List.not_mem_nil, or_false] at hk
  rcases hk with rfl | rfl
  · exact one _ _ hi h
  · exact one _ _ hj h'

theorem doneU {f : Nat} {listed : Array Bool} {a : Act} {w : World} (hr : Region.ready md ops listed = []) (h : Q .normal a w) : wpAnyU P md ops Q L f listed a w := by
  cases f with
  | zero => exact ⟨hr, h⟩
  | succ f => exact ⟨fun _ => h, by rw [hr]; simp⟩

theorem startU (L : List (Nat × (World → Prop))) {id : Nat} {a : Act} {w : World} (hm : P.follows .mixedOrders = true) (h : wpAnyU P .any ops Q L ops.size (Array.replicate ops.size false) a w.drew) : (Code.region id ops true).wp P Q a w :=
  wp_region_any hm (wpAnyU.any _ _ _ _ h)
end
end Go.Proofs.YtfgmbjdeimallaaGreatDoor
