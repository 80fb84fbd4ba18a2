/- What can be read as data, taken apart: numbers, truths, texts, structs, slices; the facts speak of the world in which the call began. -/
import Derived.Test.YtfgmbjdeimallaaGreatDoorBase
import Derived.ProofKit
import Derived.Deep.Slices
namespace Go.Proofs.YtfgmbjdeimallaaGreatDoor
open Go.RowKit Go.ChangeShapes Go.WideShapes Go.Deep

section
variable {H : Type} {enc : TypeId × Value → H} {w : World} {t : TypeId} {cs : List Value}

/-- these cells read as a value of type t -/
def Rd (enc : TypeId × Value → H) (w : World) (t : TypeId) (cs : List Value) : Prop := ∃ n x, DataW.trod enc Tryz.prog w 0 (fun _ => true) true n t cs = some x

theorem Rd.int {k : IntKind} (h : Rd enc w t cs) (ht : Tryz.prog.underlying t = some (.int k)) : ∃ m, cs = [.int k m] ∧ (Lit.int k m).wf = true := by
  obtain ⟨n, x, hx⟩ := h
  obtain ⟨m, h1, _, h2⟩ := DataW.trod_int ht hx
  exact ⟨m, h1, h2⟩
theorem Rd.bool (h : Rd enc w t cs) (ht : Tryz.prog.underlying t = some .bool) : ∃ m, cs = [.bool m] := by
  obtain ⟨n, x, hx⟩ := h
  obtain ⟨m, h1, _⟩ := DataW.trod_bool ht hx
  exact ⟨m, h1⟩
theorem Rd.string (h : Rd enc w t cs) (ht : Tryz.prog.underlying t = some .string) : ∃ s : ByteArray, cs = [.string s] ∧ s.size ≤ maxLen := by
  obtain ⟨n, x, hx⟩ := h
  obtain ⟨s, h1, _, h2⟩ := DataW.trod_string ht hx
  exact ⟨s, h1, h2⟩
theorem Rd.struct {fs : Array Field} (h : Rd enc w t cs) (ht : Tryz.prog.underlying t = some (.struct fs)) :
    cs.length = Tryz.prog.cellsOf t ∧ ∀ (i : Nat) (f : Field), fs[i]? = some f → Rd enc w f.type ((cs.drop f.offset).take (Tryz.prog.cellsOf f.type)) := by
  obtain ⟨n, x, hx⟩ := h
  obtain ⟨xs, m, _, _, hl, hxl, hf⟩ := DataW.trod_struct ht hx
  refine ⟨hl, fun i f hi => ?_⟩
  have h1 := hf i f hi
  have hlt : i < xs.length := by rw [hxl]; exact (Array.getElem?_eq_some_iff.1 hi).1
  rw [List.getElem?_eq_getElem hlt] at h1
  exact ⟨m, _, h1⟩
/-- a slice: its elements' cells, one element behind the other -/
theorem Rd.slice {e : TypeId} {size : Nat} (h : Rd enc w t cs) (ht : Tryz.prog.underlying t = some (.slice e)) (hs : Tryz.prog.cellsOf e = size) (hs0 : 0 < size) :
    ∃ (a : Option Addr) (len cap : Nat), cs = [.slice a len cap] ∧ len ≤ cap ∧ cap ≤ maxLen ∧
      ∀ i, i < len → ∃ b o, a = some ⟨b, o, none⟩ ∧ ∃ cs', cs'.length = size ∧ (∀ j v, cs'[j]? = some v → w.cell? ⟨b, o + (i * size + j), none⟩ = some v) ∧ Rd enc w e cs' := by
  obtain ⟨n, x, hx⟩ := h
  rcases open_slice ht hx with ⟨rfl, _⟩ | ⟨a, len, cap, m, n', D, Pl, rfl, _, hl, hm, hmm, _, hi⟩
  · exact ⟨none, 0, 0, rfl, Nat.le_refl _, Nat.zero_le _, fun i hi => by omega⟩
  · refine ⟨some a, len, cap, rfl, hl, hm, fun i hil => ?_⟩
    obtain ⟨cs', hc, ht'⟩ := hi i (by rw [hmm]; simp; omega)
    rw [hs] at hc
    obtain ⟨_, hcl, hat⟩ := World.cells?_some hc
    obtain ⟨b, o, spot⟩ := a
    have h0 := hat 0 hs0
    rw [List.getElem?_eq_getElem (by omega)] at h0
    have hspot : spot = none := by
      by_cases hz : i * size = 0
      · simpa [Addr.add, hz] using World.cell?_spot h0
      · obtain ⟨c0, hc0, _⟩ := hi 0 (by rw [hmm]; simp; omega)
        rw [hs] at hc0
        obtain ⟨_, hcl0, hat0⟩ := World.cells?_some hc0
        have h00 := hat0 0 hs0
        rw [List.getElem?_eq_getElem (by omega)] at h00
        simpa [Addr.add] using World.cell?_spot h00
    subst hspot
    refine ⟨b, o, rfl, cs', hcl, fun j v hv => ?_, ⟨n', _, ht'⟩⟩
    have hj : j < cs'.length := (List.getElem?_eq_some_iff.1 hv).1
    have h1 := hat j (by omega)
    rw [hv] at h1
    have e1 : ∀ (p : Addr) (x y : Nat), (p.add x).add y = p.add (x + y) := fun p x y => by
      unfold Addr.add
      by_cases hx : x = 0 <;> by_cases hy : y = 0 <;> simp [hx, hy, Nat.add_assoc]
    rw [e1] at h1
    have e2 : (⟨b, o, none⟩ : Addr).add (i * size + j) = ⟨b, o + (i * size + j), none⟩ := by unfold Addr.add; split <;> simp_all
    rw [e2] at h1
    exact h1
/-- of a slice's address: a nil one has no room; one with room lies in a plain place -/
theorem Rd.slice0 {e : TypeId} {size : Nat} {a : Option Addr} {len cap : Nat} (h : Rd enc w t [.slice a len cap]) (ht : Tryz.prog.underlying t = some (.slice e)) (hs : Tryz.prog.cellsOf e = size) (hs0 : 0 < size) :
    (a = none → cap = 0) ∧ (0 < cap → ∀ ad, a = some ad → ad.spot = none) := by
  obtain ⟨n, x, hx⟩ := h
  rcases open_slice ht hx with ⟨he, _⟩ | ⟨a', len', cap', m, n', D, Pl, he, _, hl, hm, hmm, _, hi⟩
  · simp only [List.cons.injEq, Value.slice.injEq, and_true] at he
    obtain ⟨rfl, _, rfl⟩ := he
    exact ⟨fun _ => rfl, fun h => by omega⟩
  · simp only [List.cons.injEq, Value.slice.injEq, and_true] at he
    obtain ⟨rfl, rfl, rfl⟩ := he
    refine ⟨(fun e => by cases e), fun hc ad e => ?_⟩
    cases e
    obtain ⟨c0, hc0, _⟩ := hi 0 (by rw [hmm]; simp; omega)
    rw [hs] at hc0
    obtain ⟨_, hcl0, hat0⟩ := World.cells?_some hc0
    have h00 := hat0 0 hs0
    rw [List.getElem?_eq_getElem (by omega)] at h00
    simpa [Addr.add] using World.cell?_spot h00
end
end Go.Proofs.YtfgmbjdeimallaaGreatDoor
