/- Slices that come in, of whatever elements. -/
import Derived.Test.YtfgmbjdeimallaaGreatSl
import Derived.Test.YtfgmbjdeimallaaGreatRead
import Derived.OpenShut
namespace Go.Proofs.YtfgmbjdeimallaaGreat
open Go.RowKit

theorem flat_length {α : Type} (f : α → List Value) (size : Nat) (hf : ∀ x, (f x).length = size) (l : List α) : ((l.map f).flatten).length = l.length * size := by
  induction l with
  | nil => simp
  | cons x l ih => simp only [List.map_cons, List.flatten_cons, List.length_append, ih, hf, List.length_cons]; rw [Nat.succ_mul]; omega
theorem flat_at {α : Type} (f : α → List Value) (size : Nat) (hf : ∀ x, (f x).length = size) : ∀ (l : List α) (i j : Nat) (x : α), l[i]? = some x → j < size → ((l.map f).flatten)[i * size + j]? = (f x)[j]?
  | [], i, j, x, h, _ => by simp at h
  | y :: l, i, j, x, h, hj => by
    rw [List.map_cons, List.flatten_cons]
    cases i with
    | zero =>
      simp only [List.getElem?_cons_zero, Option.some.injEq] at h
      subst h
      rw [Nat.zero_mul, Nat.zero_add, List.getElem?_append_left (by rw [hf]; exact hj)]
    | succ i =>
      rw [List.getElem?_append_right (by rw [hf, Nat.succ_mul]; omega), hf]
      rw [← flat_at f size hf l i j x (by simpa using h) hj]
      congr 1
      rw [Nat.succ_mul]
      omega

theorem sl_in {α : Type} {H : Type} {enc : TypeId × Value → H} {w : World} {t e : TypeId} {size : Nat} {a : Option Addr} {len cap : Nat} (h : Rd enc w t [.slice a len cap]) (ht : Tryz.prog.underlying t = some (.slice e)) (hs : Tryz.prog.cellsOf e = size) (hs0 : 0 < size)
    (x0 : α) (f : α → List Value) (Q : α → Prop) (hf : ∀ x, (f x).length = size) (h1 : ∀ x, ∀ u ∈ f x, u.oneCell' = true) (hx : ∀ cs, Rd enc w e cs → ∃ x, cs = f x ∧ Q x) :
    ∃ l : List α, l.length = len ∧ (∀ x ∈ l, Q x) ∧ Sl w size a len cap ((l.map f).flatten) := by
  obtain ⟨g1, g2⟩ := h.slice0 ht hs hs0
  obtain ⟨a', len', cap', he, hlc, hcm, hi⟩ := h.slice ht hs hs0
  simp only [List.cons.injEq, Value.slice.injEq, and_true] at he
  obtain ⟨rfl, rfl, rfl⟩ := he
  have hz : ∀ i, ∃ x : α, i < len → Q x ∧ ∃ b o, a = some ⟨b, o, none⟩ ∧ ∀ j v, (f x)[j]? = some v → w.cell? ⟨b, o + (i * size + j), none⟩ = some v := by
    intro i
    by_cases hl : i < len
    · obtain ⟨b, o, ha, cs', _, hat, hr⟩ := hi i hl
      obtain ⟨x, rfl, hq⟩ := hx cs' hr
      exact ⟨x, fun _ => ⟨hq, b, o, ha, hat⟩⟩
    · exact ⟨x0, fun h => absurd h hl⟩
  have hget : ∀ i, i < len → ((List.range len).map fun i => Classical.choose (hz i))[i]? = some (Classical.choose (hz i)) := by
    intro i hl
    rw [List.getElem?_map, List.getElem?_range hl]
    rfl
  refine ⟨(List.range len).map fun i => Classical.choose (hz i), by simp, ?_, ?_⟩
  · intro x hxm
    obtain ⟨i, hil, rfl⟩ := List.mem_map.1 hxm
    exact (Classical.choose_spec (hz i) (List.mem_range.1 hil)).1
  · refine ⟨by rw [flat_length f size hf]; simp, hlc, hcm, g1, g2, ?_, ?_⟩
    · intro ad e J u hJ
      have hJl := (List.getElem?_eq_some_iff.1 hJ).1
      rw [flat_length f size hf] at hJl
      simp only [List.length_map, List.length_range] at hJl
      have hil : J / size < len := Nat.div_lt_of_lt_mul (by rw [Nat.mul_comm]; exact hJl)
      have hjl : J % size < size := Nat.mod_lt _ hs0
      have hdm : J / size * size + J % size = J := by rw [Nat.mul_comm]; exact Nat.div_add_mod J size
      have hfa := flat_at f size hf _ (J / size) (J % size) _ (hget _ hil) hjl
      rw [hdm, hJ] at hfa
      obtain ⟨_, b, o, ha, hat⟩ := Classical.choose_spec (hz (J / size)) hil
      have := hat (J % size) u hfa.symm
      rw [hdm] at this
      rw [ha] at e
      cases e
      exact this
    · intro u hu
      obtain ⟨cs, hcs, hu2⟩ := List.mem_flatten.1 hu
      obtain ⟨x, _, rfl⟩ := List.mem_map.1 hcs
      exact h1 x u hu2
end Go.Proofs.YtfgmbjdeimallaaGreat
