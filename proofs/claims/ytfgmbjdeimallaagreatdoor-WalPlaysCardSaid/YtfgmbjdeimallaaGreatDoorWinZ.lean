/- Bytes that come in. -/
import Derived.Test.YtfgmbjdeimallaaGreatDoorBy
import Derived.Test.YtfgmbjdeimallaaGreatDoorRead
import Derived.OpenShut
import Derived.Test.YtfgmbjdeimallaaGreatDoorSl

namespace Go.Proofs.YtfgmbjdeimallaaGreatDoor
open Go.RowKit

theorem bytes_in {H : Type} {enc : TypeId × Value → H} {w : World} {a : Option Addr} {len cap : Nat} (h : Rd enc w 26 [.slice a len cap]) :
    ∃ l : List UInt8, l.length = len ∧ len ≤ cap ∧ cap ≤ maxLen ∧ ∀ i (hi : i < l.length), ∃ b o, a = some ⟨b, o, none⟩ ∧ w.cell? ⟨b, o + i, none⟩ = some (.int .u8 (l[i].toNat : Nat)) := by
  obtain ⟨a', len', cap', he, hlc, hcm, hi⟩ := h.slice Tryz.underlying26 (size := 1) (by kernel_rfl) (by decide)
  simp only [List.cons.injEq, Value.slice.injEq, and_true] at he
  obtain ⟨rfl, rfl, rfl⟩ := he
  have hz : ∀ i, ∃ z : UInt8, i < len → ∃ b off, a = some ⟨b, off, none⟩ ∧ w.cell? ⟨b, off + i, none⟩ = some (.int .u8 (z.toNat : Nat)) := by
    intro i
    by_cases hl : i < len
    · obtain ⟨b, o, ha, cs', _, hat, hr⟩ := hi i hl
      obtain ⟨m, rfl, hm⟩ := hr.int Tryz.underlying5
      have hb := bounds_u8 hm
      refine ⟨UInt8.ofNat m.toNat, fun _ => ⟨b, o, ha, ?_⟩⟩
      have h0 := hat 0 (.int .u8 m) rfl
      have e : ((UInt8.ofNat m.toNat).toNat : Int) = m := by rw [UInt8.toNat_ofNat']; omega
      rw [e]
      simpa using h0
    · exact ⟨0, fun h => absurd h hl⟩
  refine ⟨(List.range len).map fun i => Classical.choose (hz i), by simp, hlc, hcm, ?_⟩
  intro i hil
  have hl : i < len := by simpa using hil
  have := Classical.choose_spec (hz i) hl
  simpa using this

/-- as the source of an append -/
theorem src_in {H : Type} {enc : TypeId × Value → H} {w : World} {a : Option Addr} {len cap : Nat} (h : Rd enc w 26 [.slice a len cap]) :
    ∃ l : List UInt8, l.length = len ∧ ∀ w', Keeps [] w w' → Src Tryz.prog 1 26 (.slice a len cap) len (bys l) w' := by
  obtain ⟨l, hl, _, _, hi⟩ := bytes_in h
  refine ⟨l, hl, fun w' hk => ?_⟩
  subst hl
  cases l with
  | nil =>
    cases a with
    | none => exact Src.ofNil w' Tryz.underlying26 cap
    | some ad => exact Src.ofSlice w' Tryz.underlying26 ad 0 cap [] (by simp) (fun j u hj => by simp at hj) (fun u hu => by cases hu)
  | cons x l =>
    obtain ⟨b, o, rfl, _⟩ := hi 0 (by simp)
    refine Src.ofSlice w' Tryz.underlying26 _ _ cap (bys (x :: l)) (by simp) ?_ (bys_one _)
    intro j u hj
    have hjl := (List.getElem?_eq_some_iff.1 hj).1
    rw [bys_length] at hjl
    obtain ⟨b', o', he, hc⟩ := hi j hjl
    cases he
    rw [bys_at hjl] at hj
    rw [addr_add rfl, ← hj]
    exact hk.cellSome hc (by simp)
end Go.Proofs.YtfgmbjdeimallaaGreatDoor
/- Slices that come in, of whatever elements. -/
namespace Go.Proofs.YtfgmbjdeimallaaGreatDoor
open Go.RowKit

theorem flat_length {α : Type} (f : α → List Value) (size : Nat) (hf : ∀ x, (f x).length = size) (l : List α) : ((l.map f).flatten).length = l.length * size := by
  induction l with
  | nil => simp
  | cons x l ih => simp only [List.map_cons, List.flatten_cons, List.length_append, ih, hf, List.length_cons]; rw [Nat.succ_mul]; omega
theorem flat_at {α : Type} (f : α → List Value) (size : Nat) (hf : ∀ x, (f x).length = size) : ∀ (l : List α) (i j : Nat) (x : α), l[i]? = some x → j < size → ((l.map f).flatten)[i * size + j]? = (f x)[j]?
  | [], i, j, x, h, _ => by simp at h
  | y :: l, i, j, x, h, hj => by
    rw [List.map_cons, List.flatten_cons]
    cases i with
    | zero =>
      simp only [List.getElem?_cons_zero, Option.some.injEq] at h
      subst h
      rw [Nat.zero_mul, Nat.zero_add, List.getElem?_append_left (by rw [hf]; exact hj)]
    | succ i =>
      rw [List.getElem?_append_right (by rw [hf, Nat.succ_mul]; omega), hf]
      rw [← flat_at f size hf l i j x (by simpa using h) hj]
      congr 1
      rw [Nat.succ_mul]
      omega

theorem sl_in {α : Type} {H : Type} {enc : TypeId × Value → H} {w : World} {t e : TypeId} {size : Nat} {a : Option Addr} {len cap : Nat} (h : Rd enc w t [.slice a len cap]) (ht : Tryz.prog.underlying t = some (.slice e)) (hs : Tryz.prog.cellsOf e = size) (hs0 : 0 < size)
    (x0 : α) (f : α → List Value) (Q : α → Prop) (hf : ∀ x, (f x).length = size) (h1 : ∀ x, ∀ u ∈ f x, u.oneCell' = true) (hx : ∀ cs, Rd enc w e cs → ∃ x, cs = f x ∧ Q x) :
    ∃ l : List α, l.length = len ∧ (∀ x ∈ l, Q x) ∧ Sl w size a len cap ((l.map f).flatten) := by
  obtain ⟨g1, g2⟩ := h.slice0 ht hs hs0
  obtain ⟨a', len', cap', he, hlc, hcm, hi⟩ := h.slice ht hs hs0
  simp only [List.cons.injEq, Value.slice.injEq, and_true] at he
  obtain ⟨rfl, rfl, rfl⟩ := he
  have hz : ∀ i, ∃ x : α, i < len → Q x ∧ ∃ b o, a = some ⟨b, o, none⟩ ∧ ∀ j v, (f x)[j]? = some v → w.cell? ⟨b, o + (i * size + j), none⟩ = some v := by
    intro i
    by_cases hl : i < len
    · obtain ⟨b, o, ha, cs', _, hat, hr⟩ := hi i hl
      obtain ⟨x, rfl, hq⟩ := hx cs' hr
      exact ⟨x, fun _ => ⟨hq, b, o, ha, hat⟩⟩
    · exact ⟨x0, fun h => absurd h hl⟩
  have hget : ∀ i, i < len → ((List.range len).map fun i => Classical.choose (hz i))[i]? = some (Classical.choose (hz i)) := by
    intro i hl
    rw [List.getElem?_map, List.getElem?_range hl]
    rfl
  refine ⟨(List.range len).map fun i => Classical.choose (hz i), by simp, ?_, ?_⟩
  · intro x hxm
    obtain ⟨i, hil, rfl⟩ := List.mem_map.1 hxm
    exact (Classical.choose_spec (hz i) (List.mem_range.1 hil)).1
  · refine ⟨by rw [flat_length f size hf]; simp, hlc, hcm, g1, g2, ?_, ?_⟩
    · intro ad e J u hJ
      have hJl := (List.getElem?_eq_some_iff.1 hJ).1
      rw [flat_length f size hf] at hJl
      simp only [List.length_map, List.length_range] at hJl
      have hil : J / size < len := Nat.div_lt_of_lt_mul (by rw [Nat.mul_comm]; exact hJl)
      have hjl : J % size < size := Nat.mod_lt _ hs0
      have hdm : J / size * size + J % size = J := by rw [Nat.mul_comm]; exact Nat.div_add_mod J size
      have hfa := flat_at f size hf _ (J / size) (J % size) _ (hget _ hil) hjl
      rw [hdm, hJ] at hfa
      obtain ⟨_, b, o, ha, hat⟩ := Classical.choose_spec (hz (J / size)) hil
      have := hat (J % size) u hfa.symm
      rw [hdm] at this
      rw [ha] at e
      cases e
      exact this
    · intro u hu
      obtain ⟨cs, hcs, hu2⟩ := List.mem_flatten.1 hu
      obtain ⟨x, _, rfl⟩ := List.mem_map.1 hcs
      exact h1 x u hu2
end Go.Proofs.YtfgmbjdeimallaaGreatDoor
