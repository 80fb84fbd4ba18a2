/- Texts read from bytes: Text. -/
import Derived.Test.YtllcidpmdmacjaaDoorWk

namespace Go.Proofs.YtllcidpmdmacjaaDoor
open Go.RowKit Go.Lib

/-- what Text tells -/
def rdT (l : List UInt8) : List UInt8 × Nat × Nat :=
  if (rdU 0 0 l).2.2 ≠ 0 then ([], 0, (rdU 0 0 l).2.2) else
  if 2000 < (rdU 0 0 l).1 then ([], 0, 20) else
  if l.length - (rdU 0 0 l).2.1 < (rdU 0 0 l).1 then ([], 0, 22) else
  ((l.drop (rdU 0 0 l).2.1).take (rdU 0 0 l).1, (rdU 0 0 l).2.1 + (rdU 0 0 l).1, 0)

/-- a part of bytes -/
theorem Rb.part {w : World} {ao : Option Addr} {c : Nat} {l : List UInt8} (h : Rb w ao c l) {z n : Nat} (hz : z + n ≤ l.length) :
    Rb w (if c = z then ao else ao.map (·.add z)) (c - z) ((l.drop z).take n) := by
  have hD := h.drop (k := z) (by omega)
  have hT := hD.take (k := n) (c' := c - z) (by omega) (by have := h.cap; omega) (Nat.le_refl _)
  have hl : ((l.drop z).take n).length = n := by simp; omega
  have hb : ((bys l).drop (z * 1)).take (n * 1) = bys ((l.drop z).take n) := by unfold bys; rw [Nat.mul_one, Nat.mul_one, List.map_take, List.map_drop]
  rw [hb, Nat.mul_one] at hT
  unfold Rb
  rw [hl]
  exact hT

theorem rdT_put (s : ByteArray) (more : List UInt8) (h : s.size ≤ 1000000000) : rdT (uvarint s.size ++ s.data.toList ++ more) = if 2000 < s.size then ([], 0, 20) else (s.data.toList, (uvarint s.size ++ s.data.toList).length, 0) := by
  have hs : s.data.toList.length = s.size := by rw [Array.length_toList]; rfl
  have hu := rdU_put s.size (s.data.toList ++ more) (by omega)
  rw [← List.append_assoc] at hu
  unfold rdT
  rw [hu]
  simp only [ne_eq, not_true, if_false]
  split
  · rfl
  · rw [if_neg (by simp only [List.length_append]; omega), List.append_assoc, List.drop_left, ← hs, List.take_left]
    simp
end Go.Proofs.YtllcidpmdmacjaaDoor
