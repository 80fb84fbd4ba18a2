/- What is known of the bytes' layer. -/
import Derived.Test.YtllcidpmdmacjaaDoorWo2
import Derived.Lib.SlBytesConst

namespace Go.Proofs.YtllcidpmdmacjaaDoor
open Go.RowKit Go.Lib

theorem known_row : rowOk [⟨2, 5, ⟨#[]⟩⟩, ⟨0, 0, ⟨#[]⟩⟩] = true ∧ putRow [⟨2, 5, ⟨#[]⟩⟩, ⟨0, 0, ⟨#[]⟩⟩] = [2, 2, 10, 0] := by
  constructor
  · simp [rowOk, mayV]
  · have z5 : zigzag 5 = 10 := by decide
    simp only [putRow, putVs, putV, List.map_cons, List.map_nil, List.length_cons, List.length_nil, z5]
    rw [uvarint_small (by omega), uvarint_small (by omega)]
    rfl
theorem known_read : rowP [2] = ([], 0, 22) := by rfl
theorem known_sum : crc [49, 50, 51, 52, 53, 54, 55, 56, 57] = 3421780262 := by decide +kernel

theorem rb_marked (w : World) (l : List UInt8) (m : Nat × Nat) (hl : l.length ≤ maxLen) : Rb (w.alloc (.cells (bys l).toArray 5 m)) (some ⟨w.heap.size, 0, none⟩) l.length l := by
  refine ⟨by simp, Nat.le_refl _, hl, fun e => by simp at e, fun _ ad e => by cases e; rfl, ?_, bys_one l⟩
  intro ad e j u hj
  cases e
  have := cell_of_row (w.alloc (.cells (bys l).toArray 5 m)) w.heap.size (0 + j) (bys l).toArray 5 m (heap_alloc_new w _)
  rw [this, Nat.zero_add]
  simpa using hj

end Go.Proofs.YtllcidpmdmacjaaDoor
