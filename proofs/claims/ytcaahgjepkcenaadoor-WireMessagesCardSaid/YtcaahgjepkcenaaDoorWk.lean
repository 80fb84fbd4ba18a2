/- What is known of the bytes' layer. -/
import Derived.Test.YtcaahgjepkcenaaDoorWo2
import Derived.Lib.SlBytesConst

namespace Go.Proofs.YtcaahgjepkcenaaDoor
open Go.RowKit Go.Lib

theorem known_row : rowOk [⟨2, 5, ⟨#[]⟩⟩, ⟨0, 0, ⟨#[]⟩⟩] = true ∧ putRow [⟨2, 5, ⟨#[]⟩⟩, ⟨0, 0, ⟨#[]⟩⟩] = [2, 2, 10, 0] := by
  constructor
  · simp [rowOk, mayV]
  · have z5 : zigzag 5 = 10 := by decide
    simp only [putRow, putVs, putV, List.map_cons, List.map_nil, List.length_cons, List.length_nil, z5]
    rw [uvarint_small (by omega), uvarint_small (by omega)]
    rfl
theorem known_read : rowP [2] = ([], 0, 22) := by rfl
theorem known_sum : crc [49, 50, 51, 52, 53, 54, 55, 56, 57] = 3421780262 := by decide +kernel

theorem rb_marked (w : World) (l : List UInt8) (m : Nat × Nat) (hl : l.length ≤ maxLen) : Rb (w.alloc (.cells (bys l).toArray 5 m)) (some ⟨w.heap.size, 0, none⟩) l.length l := by
  refine ⟨by simp, Nat.le_refl _, hl, fun e => by simp at e, fun _ ad e => by cases e; rfl, ?_, bys_one l⟩
  intro ad e j u hj
  cases e
  have := cell_of_row (w.alloc (.cells (bys l).toArray 5 m)) w.heap.size (0 + j) (bys l).toArray 5 m (heap_alloc_new w _)
  rw [this, Nat.zero_add]
  simpa using hj

set_option maxRecDepth 100000 in
set_option maxHeartbeats 4000000 in
theorem wknown (w : World) (hg : (w).cell? ⟨0, 0, none⟩ = some (.iface 153 (.agg #[.pointer (some ⟨2, 27, none⟩)]))) :
    Calls Tryd.prog 10 #[] w fun e w' => e = .returned (.bool true) ∧ Keeps [] w w' := by
  go_enter Tryd.func10, Tryd.ntmps10
  go_wp2_with fail
  have hk0 := (Keeps.refl [] w).alloc (.cells #[.int .i64 2, .int .i64 5, .string ⟨#[]⟩, .int .i64 0, .int .i64 0, .string ⟨#[]⟩] 95)
  have hV : Rv (w.alloc (.cells #[.int .i64 2, .int .i64 5, .string ⟨#[]⟩, .int .i64 0, .int .i64 0, .string ⟨#[]⟩] 95)) (some ⟨w.heap.size, 0, none⟩) 2 [⟨2, 5, ⟨#[]⟩⟩, ⟨0, 0, ⟨#[]⟩⟩] :=
    Sl.of_blk (n := 2) (sz := 3) (Blk.fresh w _ _) rfl (by decide) (by intro u hu; simp at hu; rcases hu with rfl | rfl | rfl | rfl | rfl <;> rfl)
  have P := putRow_any _ _ _ _ hV (by intro v hv; simp at hv; rcases hv with rfl | rfl <;> decide)
  rw [known_row.1, known_row.2] at P
  simp only [if_true] at P
  generalize World.alloc w _ = w1 at *
  refine P.mono ?_
  rintro e w2 ⟨bo, d, ev, rfl, hO, hE, hk2⟩
  obtain rfl := hE.zero.2 rfl
  have hk02 := hk0.trans hk2
  clear P hV hk0 hk2 hE
  go_wp2_with fail
  have hB1 := Blk.fresh w2 5 #[.int .u8 2]
  have hk2 := hk02.alloc (.cells #[.int .u8 2] 5)
  have hO2 := hO.keep0 ((Keeps.refl [] w2).alloc (.cells #[.int .u8 2] 5))
  have R := row_any _ _ [2] _ (rb1 (x := 2) hB1) (by intro ad e; cases e; simp) (by decide)
  rw [known_read] at R
  clear hB1 hO hk02
  generalize World.alloc w2 _ = w3 at *
  refine R.mono ?_
  rintro e w4 ⟨bo2, d2, ev, rfl, _, hE, hk4⟩
  have hO4 := hO2.keep0 hk4
  have hk04 := hk2.trans hk4
  have hg4 : (w4).cell? ⟨0, 0, none⟩ = some (.iface 153 (.agg #[.pointer (some ⟨2, 27, none⟩)])) := hk04.cellSome hg (by simp)
  have r1 : (convert 24 9 (.slice bo 4 d)).run Tryd.prog w4 = .ok (.string ⟨#[2, 2, 10, 0]⟩) w4 := run_text hO4.rb 24 9 Tryd.underlying24 Tryd.underlying9
  clear R hO2 hk2 hk4
  go_wp2_with fail
  refine (class_any ev 22 w4 hg4 hE.is).mono ?_
  rintro e w5 ⟨rfl, hk5⟩
  have q := Lib.run_convert_bytes_const (P := Tryd.prog) w5 24 5 #[.int .u8 49, .int .u8 50, .int .u8 51, .int .u8 52, .int .u8 53, .int .u8 54, .int .u8 55, .int .u8 56, .int .u8 57] 9 9 Tryd.underlying24 Tryd.underlying5
  have S := sum_any _ _ [49, 50, 51, 52, 53, 54, 55, 56, 57] _ (rb_marked w5 [49, 50, 51, 52, 53, 54, 55, 56, 57] (9, 10) (by decide))
  rw [known_sum] at S
  have hk6 := (hk04.trans hk5).alloc (.cells (bys [49, 50, 51, 52, 53, 54, 55, 56, 57]).toArray 5 (9, 10))
  go_wp2_with fail
  refine S.mono ?_
  rintro e w6 ⟨rfl, rfl⟩
  go_wp2_with fail
  go_ret
  exact ⟨rfl, hk6⟩
end Go.Proofs.YtcaahgjepkcenaaDoor
