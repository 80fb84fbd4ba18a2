/- Errors of a class; a part of bytes. -/
import Derived.Test.YtfgmbjdeimallaaGreatDoorErrs
import Derived.Test.YtfgmbjdeimallaaGreatDoorBy

namespace Go.Proofs.YtfgmbjdeimallaaGreatDoor
open Go.RowKit Go.Lib

/-- an error of a class, none of class 0 -/
def ErrF (w : World) (ev : Value) (f : Nat) : Prop := (ev = .nilIface ∧ f = 0) ∨ (f ≠ 0 ∧ ∃ g p, ev = .iface 95 (.pointer (some ⟨g, 0, none⟩)) ∧ Blk w g 97 #[.string p, .iface 75 (.int .i64 f)])
theorem ErrF.is {w : World} {ev : Value} {f : Nat} (h : ErrF w ev f) : ErrIs w ev f := by
  rcases h with ⟨rfl, rfl⟩ | ⟨_, h⟩
  · exact .inl ⟨rfl, rfl⟩
  · exact .inr h
theorem ErrF.zero {w : World} {ev : Value} {f : Nat} (h : ErrF w ev f) : ev = .nilIface ↔ f = 0 := by
  rcases h with ⟨rfl, rfl⟩ | ⟨h0, g, p, rfl, _⟩
  · simp
  · simp [h0]
theorem ErrF.of {w : World} {ev : Value} {f : Nat} (h : ErrIs w ev f) (h0 : ev = .nilIface ↔ f = 0) : ErrF w ev f := by
  rcases h with ⟨rfl, h1⟩ | ⟨g, p, rfl, hB⟩
  · exact .inl ⟨rfl, h0.1 rfl⟩
  · refine .inr ⟨fun e => ?_, g, p, rfl, hB⟩
    have := h0.2 e
    simp at this
theorem ErrF.keep {w w' : World} {ev : Value} {f : Nat} (h : ErrF w ev f) (hk : Keeps [] w w') : ErrF w' ev f := by
  rcases h with h | ⟨h0, g, p, h1, h2⟩
  · exact .inl h
  · exact .inr ⟨h0, g, p, h1, h2.keep hk (by simp)⟩
theorem ErrF.keepR {w w' : World} {ev : Value} {f : Nat} {r : Nat} {t : TypeId} {cs : Array Value} (h : ErrF w ev f) (hR : Blk w r t cs) (ht : 97 ≠ t) (hk : Keeps [r] w w') : ErrF w' ev f := by
  rcases h with h | ⟨h0, g, p, h1, h2⟩
  · exact .inl h
  · exact .inr ⟨h0, g, p, h1, h2.keep hk (by simpa using h2.ne hR ht)⟩

/-- a part of bytes -/
theorem Rb.part {w : World} {ao : Option Addr} {c : Nat} {l : List UInt8} (h : Rb w ao c l) {z n : Nat} (hz : z + n ≤ l.length) :
    Rb w (if c = z then ao else ao.map (·.add z)) (c - z) ((l.drop z).take n) := by
  have hD := h.drop (k := z) (by omega)
  have hT := hD.take (k := n) (c' := c - z) (by omega) (by have := h.cap; omega) (Nat.le_refl _)
  have hl : ((l.drop z).take n).length = n := by simp; omega
  have hb : ((bys l).drop (z * 1)).take (n * 1) = bys ((l.drop z).take n) := by unfold bys; rw [Nat.mul_one, Nat.mul_one, List.map_take, List.map_drop]
  rw [hb, Nat.mul_one] at hT
  unfold Rb
  rw [hl]
  exact hT
end Go.Proofs.YtfgmbjdeimallaaGreatDoor
