/- What can be read as data, taken apart: numbers, truths, texts, structs, slices; the facts speak of the world in which the call began. -/
import Derived.Test.YtknnhnpcgefchaaDoorBase
import Derived.ProofKit
import Derived.Deep.Slices
import Derived.Test.YtknnhnpcgefchaaDoorSl
import Derived.OpenShut
import Derived.Test.YtknnhnpcgefchaaDoorTrA
namespace Go.Proofs.YtknnhnpcgefchaaDoor
open Go.RowKit Go.ChangeShapes Go.WideShapes Go.Deep

section
variable {H : Type} {enc : TypeId × Value → H} {w : World} {t : TypeId} {cs : List Value}

/-- these cells read as a value of type t -/
def Rd (enc : TypeId × Value → H) (w : World) (t : TypeId) (cs : List Value) : Prop := ∃ n x, DataW.trod enc Tryd.prog w 0 (fun _ => true) true n t cs = some x

theorem Rd.int {k : IntKind} (h : Rd enc w t cs) (ht : Tryd.prog.underlying t = some (.int k)) : ∃ m, cs = [.int k m] ∧ (Lit.int k m).wf = true := by
  obtain ⟨n, x, hx⟩ := h
  obtain ⟨m, h1, _, h2⟩ := DataW.trod_int ht hx
  exact ⟨m, h1, h2⟩
theorem Rd.bool (h : Rd enc w t cs) (ht : Tryd.prog.underlying t = some .bool) : ∃ m, cs = [.bool m] := by
  obtain ⟨n, x, hx⟩ := h
  obtain ⟨m, h1, _⟩ := DataW.trod_bool ht hx
  exact ⟨m, h1⟩
theorem Rd.string (h : Rd enc w t cs) (ht : Tryd.prog.underlying t = some .string) : ∃ s : ByteArray, cs = [.string s] ∧ s.size ≤ maxLen := by
  obtain ⟨n, x, hx⟩ := h
  obtain ⟨s, h1, _, h2⟩ := DataW.trod_string ht hx
  exact ⟨s, h1, h2⟩
theorem Rd.struct {fs : Array Field} (h : Rd enc w t cs) (ht : Tryd.prog.underlying t = some (.struct fs)) :
    cs.length = Tryd.prog.cellsOf t ∧ ∀ (i : Nat) (f : Field), fs[i]? = some f → Rd enc w f.type ((cs.drop f.offset).take (Tryd.prog.cellsOf f.type)) := by
  obtain ⟨n, x, hx⟩ := h
  obtain ⟨xs, m, _, _, hl, hxl, hf⟩ := DataW.trod_struct ht hx
  refine ⟨hl, fun i f hi => ?_⟩
  have h1 := hf i f hi
  have hlt : i < xs.length := by rw [hxl]; exact (Array.getElem?_eq_some_iff.1 hi).1
  rw [List.getElem?_eq_getElem hlt] at h1
  exact ⟨m, _, h1⟩
/-- a slice: its elements' cells, one element behind the other -/
theorem Rd.slice {e : TypeId} {size : Nat} (h : Rd enc w t cs) (ht : Tryd.prog.underlying t = some (.slice e)) (hs : Tryd.prog.cellsOf e = size) (hs0 : 0 < size) :
    ∃ (a : Option Addr) (len cap : Nat), cs = [.slice a len cap] ∧ len ≤ cap ∧ cap ≤ maxLen ∧
      ∀ i, i < len → ∃ b o, a = some ⟨b, o, none⟩ ∧ ∃ cs', cs'.length = size ∧ (∀ j v, cs'[j]? = some v → w.cell? ⟨b, o + (i * size + j), none⟩ = some v) ∧ Rd enc w e cs' := by
  obtain ⟨n, x, hx⟩ := h
  rcases open_slice ht hx with ⟨rfl, _⟩ | ⟨a, len, cap, m, n', D, Pl, rfl, _, hl, hm, hmm, _, hi⟩
  · exact ⟨none, 0, 0, rfl, Nat.le_refl _, Nat.zero_le _, fun i hi => by omega⟩
  · refine ⟨some a, len, cap, rfl, hl, hm, fun i hil => ?_⟩
    obtain ⟨cs', hc, ht'⟩ := hi i (by rw [hmm]; simp; omega)
    rw [hs] at hc
    obtain ⟨_, hcl, hat⟩ := World.cells?_some hc
    obtain ⟨b, o, spot⟩ := a
    have h0 := hat 0 hs0
    rw [List.getElem?_eq_getElem (by omega)] at h0
    have hspot : spot = none := by
      by_cases hz : i * size = 0
      · simpa [Addr.add, hz] using World.cell?_spot h0
      · obtain ⟨c0, hc0, _⟩ := hi 0 (by rw [hmm]; simp; omega)
        rw [hs] at hc0
        obtain ⟨_, hcl0, hat0⟩ := World.cells?_some hc0
        have h00 := hat0 0 hs0
        rw [List.getElem?_eq_getElem (by omega)] at h00
        simpa [Addr.add] using World.cell?_spot h00
    subst hspot
    refine ⟨b, o, rfl, cs', hcl, fun j v hv => ?_, ⟨n', _, ht'⟩⟩
    have hj : j < cs'.length := (List.getElem?_eq_some_iff.1 hv).1
    have h1 := hat j (by omega)
    rw [hv] at h1
    have e1 : ∀ (p : Addr) (x y : Nat), (p.add x).add y = p.add (x + y) := fun p x y => by
      unfold Addr.add
      by_cases hx : x = 0 <;> by_cases hy : y = 0 <;> simp [hx, hy, Nat.add_assoc]
    rw [e1] at h1
    have e2 : (⟨b, o, none⟩ : Addr).add (i * size + j) = ⟨b, o + (i * size + j), none⟩ := by unfold Addr.add; split <;> simp_all
    rw [e2] at h1
    exact h1
/-- of a slice's address: a nil one has no room; one with room lies in a plain place -/
theorem Rd.slice0 {e : TypeId} {size : Nat} {a : Option Addr} {len cap : Nat} (h : Rd enc w t [.slice a len cap]) (ht : Tryd.prog.underlying t = some (.slice e)) (hs : Tryd.prog.cellsOf e = size) (hs0 : 0 < size) :
    (a = none → cap = 0) ∧ (0 < cap → ∀ ad, a = some ad → ad.spot = none) := by
  obtain ⟨n, x, hx⟩ := h
  rcases open_slice ht hx with ⟨he, _⟩ | ⟨a', len', cap', m, n', D, Pl, he, _, hl, hm, hmm, _, hi⟩
  · simp only [List.cons.injEq, Value.slice.injEq, and_true] at he
    obtain ⟨rfl, _, rfl⟩ := he
    exact ⟨fun _ => rfl, fun h => by omega⟩
  · simp only [List.cons.injEq, Value.slice.injEq, and_true] at he
    obtain ⟨rfl, rfl, rfl⟩ := he
    refine ⟨(fun e => by cases e), fun hc ad e => ?_⟩
    cases e
    obtain ⟨c0, hc0, _⟩ := hi 0 (by rw [hmm]; simp; omega)
    rw [hs] at hc0
    obtain ⟨_, hcl0, hat0⟩ := World.cells?_some hc0
    have h00 := hat0 0 hs0
    rw [List.getElem?_eq_getElem (by omega)] at h00
    simpa [Addr.add] using World.cell?_spot h00
end
end Go.Proofs.YtknnhnpcgefchaaDoor
/- Slices that come in, of whatever elements. -/
namespace Go.Proofs.YtknnhnpcgefchaaDoor
open Go.RowKit

theorem flat_length {α : Type} (f : α → List Value) (size : Nat) (hf : ∀ x, (f x).length = size) (l : List α) : ((l.map f).flatten).length = l.length * size := by
  induction l with
  | nil => simp
  | cons x l ih => simp only [List.map_cons, List.flatten_cons, List.length_append, ih, hf, List.length_cons]; rw [Nat.succ_mul]; omega
theorem flat_at {α : Type} (f : α → List Value) (size : Nat) (hf : ∀ x, (f x).length = size) : ∀ (l : List α) (i j : Nat) (x : α), l[i]? = some x → j < size → ((l.map f).flatten)[i * size + j]? = (f x)[j]?
  | [], i, j, x, h, _ => by simp at h
  | y :: l, i, j, x, h, hj => by
    rw [List.map_cons, List.flatten_cons]
    cases i with
    | zero =>
      simp only [List.getElem?_cons_zero, Option.some.injEq] at h
      subst h
      rw [Nat.zero_mul, Nat.zero_add, List.getElem?_append_left (by rw [hf]; exact hj)]
    | succ i =>
      rw [List.getElem?_append_right (by rw [hf, Nat.succ_mul]; omega), hf]
      rw [← flat_at f size hf l i j x (by simpa using h) hj]
      congr 1
      rw [Nat.succ_mul]
      omega

theorem sl_in {α : Type} {H : Type} {enc : TypeId × Value → H} {w : World} {t e : TypeId} {size : Nat} {a : Option Addr} {len cap : Nat} (h : Rd enc w t [.slice a len cap]) (ht : Tryd.prog.underlying t = some (.slice e)) (hs : Tryd.prog.cellsOf e = size) (hs0 : 0 < size)
    (x0 : α) (f : α → List Value) (Q : α → Prop) (hf : ∀ x, (f x).length = size) (h1 : ∀ x, ∀ u ∈ f x, u.oneCell' = true) (hx : ∀ cs, Rd enc w e cs → ∃ x, cs = f x ∧ Q x) :
    ∃ l : List α, l.length = len ∧ (∀ x ∈ l, Q x) ∧ Sl w size a len cap ((l.map f).flatten) := by
  obtain ⟨g1, g2⟩ := h.slice0 ht hs hs0
  obtain ⟨a', len', cap', he, hlc, hcm, hi⟩ := h.slice ht hs hs0
  simp only [List.cons.injEq, Value.slice.injEq, and_true] at he
  obtain ⟨rfl, rfl, rfl⟩ := he
  have hz : ∀ i, ∃ x : α, i < len → Q x ∧ ∃ b o, a = some ⟨b, o, none⟩ ∧ ∀ j v, (f x)[j]? = some v → w.cell? ⟨b, o + (i * size + j), none⟩ = some v := by
    intro i
    by_cases hl : i < len
    · obtain ⟨b, o, ha, cs', _, hat, hr⟩ := hi i hl
      obtain ⟨x, rfl, hq⟩ := hx cs' hr
      exact ⟨x, fun _ => ⟨hq, b, o, ha, hat⟩⟩
    · exact ⟨x0, fun h => absurd h hl⟩
  have hget : ∀ i, i < len → ((List.range len).map fun i => Classical.choose (hz i))[i]? = some (Classical.choose (hz i)) := by
    intro i hl
    rw [List.getElem?_map, List.getElem?_range hl]
    rfl
  refine ⟨(List.range len).map fun i => Classical.choose (hz i), by simp, ?_, ?_⟩
  · intro x hxm
    obtain ⟨i, hil, rfl⟩ := List.mem_map.1 hxm
    exact (Classical.choose_spec (hz i) (List.mem_range.1 hil)).1
  · refine ⟨by rw [flat_length f size hf]; simp, hlc, hcm, g1, g2, ?_, ?_⟩
    · intro ad e J u hJ
      have hJl := (List.getElem?_eq_some_iff.1 hJ).1
      rw [flat_length f size hf] at hJl
      simp only [List.length_map, List.length_range] at hJl
      have hil : J / size < len := Nat.div_lt_of_lt_mul (by rw [Nat.mul_comm]; exact hJl)
      have hjl : J % size < size := Nat.mod_lt _ hs0
      have hdm : J / size * size + J % size = J := by rw [Nat.mul_comm]; exact Nat.div_add_mod J size
      have hfa := flat_at f size hf _ (J / size) (J % size) _ (hget _ hil) hjl
      rw [hdm, hJ] at hfa
      obtain ⟨_, b, o, ha, hat⟩ := Classical.choose_spec (hz (J / size)) hil
      have := hat (J % size) u hfa.symm
      rw [hdm] at this
      rw [ha] at e
      cases e
      exact this
    · intro u hu
      obtain ⟨cs, hcs, hu2⟩ := List.mem_flatten.1 hu
      obtain ⟨x, _, rfl⟩ := List.mem_map.1 hcs
      exact h1 x u hu2
end Go.Proofs.YtknnhnpcgefchaaDoor
/- TreePlays: the steps that come in. -/
namespace Go.Proofs.YtknnhnpcgefchaaDoor
open Go.RowKit Go.Lib

theorem in_one_u8 : Tryd.prog.cellsOf 5 = 1 := by kernel_rfl
theorem flat_bys (l : List UInt8) : (l.map fun b => [Value.int .u8 (b.toNat : Nat)]).flatten = bys l := by
  induction l with
  | nil => rfl
  | cons x l ih =>
    rw [List.map_cons, List.flatten_cons, ih]
    rfl
section
variable {H : Type} {enc : TypeId × Value → H} {w : World}
theorem rb_in {a : Option Addr} {len cap : Nat} (h : Rd enc w 30 [.slice a len cap]) : ∃ l : List UInt8, l.length = len ∧ Rb w a cap l := by
  obtain ⟨l, hl, _, hS⟩ := sl_in h Tryd.underlying30 in_one_u8 (by omega) (0 : UInt8) (fun b => [Value.int .u8 (b.toNat : Nat)]) (fun _ => True) (fun _ => rfl)
    (by intro v u hu; simp at hu; subst hu; rfl) (fun cs hc => by
      obtain ⟨m, rfl, hm⟩ := hc.int Tryd.underlying5
      have hb := bounds_u8 hm
      have e : ((UInt8.ofNat m.toNat).toNat : Int) = m := by rw [UInt8.toNat_ofNat']; omega
      exact ⟨UInt8.ofNat m.toNat, by rw [e], trivial⟩)
  subst hl
  rw [flat_bys] at hS
  exact ⟨l, rfl, hS⟩
end
theorem in_one_int : Tryd.prog.cellsOf 3 = 1 := by kernel_rfl
theorem in_one_bs : Tryd.prog.cellsOf 30 = 1 := by kernel_rfl
theorem in_cons3 {n : Nat} {l : List Value} (h : l.length = n + 1) : ∃ c r, l = c :: r ∧ r.length = n := by
  cases l with
  | nil => simp at h
  | cons c r => exact ⟨c, r, rfl, by simpa using h⟩
theorem in_st3 : Tryd.prog.cellsOf 32 = 3 := by kernel_rfl
section
variable {H : Type} {enc : TypeId × Value → H} {w : World}
theorem stp_in {cs : List Value} (h : Rd enc w 32 cs) : ∃ x : Stp, cs = x.cells ∧ x.At w := by
  obtain ⟨hl, hs⟩ := h.struct Tryd.underlying32
  rw [in_st3] at hl
  obtain ⟨c0, l0, rfl, e0⟩ := in_cons3 hl
  obtain ⟨c1, l1, rfl, e1⟩ := in_cons3 e0
  obtain ⟨c2, l2, rfl, e2⟩ := in_cons3 e1
  obtain rfl := List.eq_nil_of_length_eq_zero e2
  have k0 : Rd enc w 3 [c0] := by have := hs 0 _ rfl; simpa [in_one_int] using this
  have k1 : Rd enc w 30 [c1] := by have := hs 1 _ rfl; simpa [in_one_int, in_one_bs] using this
  have k2 : Rd enc w 30 [c2] := by have := hs 2 _ rfl; simpa [in_one_int, in_one_bs] using this
  obtain ⟨x0, ex0, h0⟩ := k0.int Tryd.underlying3
  obtain ⟨a1, n1, c1', e1, _⟩ := k1.slice Tryd.underlying30 in_one_u8 (by omega)
  obtain ⟨a2, n2, c2', e2', _⟩ := k2.slice Tryd.underlying30 in_one_u8 (by omega)
  simp only [List.cons.injEq, and_true] at ex0 e1 e2'
  subst ex0 e1 e2'
  obtain ⟨k, rfl, hR1⟩ := rb_in k1
  obtain ⟨v, rfl, hR2⟩ := rb_in k2
  exact ⟨⟨x0, a1, c1', k, a2, c2', v⟩, rfl, hR1, hR2⟩
theorem steps_in {a : Option Addr} {len cap : Nat} (h : Rd enc w 22 [.slice a len cap]) : ∃ l : List Stp, l.length = len ∧ (∀ s ∈ l, s.At w) ∧ Sl w 3 a l.length cap (sts l) := by
  obtain ⟨l, hl, hq, hS⟩ := sl_in h Tryd.underlying22 in_st3 (by omega) (⟨0, none, 0, [], none, 0, []⟩ : Stp) (fun v => v.cells) (fun v => v.At w) (fun _ => rfl)
    (by intro v u hu; simp [Stp.cells] at hu; rcases hu with rfl | rfl | rfl <;> rfl) (fun cs hc => stp_in hc)
  subst hl
  exact ⟨l, rfl, hq, hS⟩
end
end Go.Proofs.YtknnhnpcgefchaaDoor
