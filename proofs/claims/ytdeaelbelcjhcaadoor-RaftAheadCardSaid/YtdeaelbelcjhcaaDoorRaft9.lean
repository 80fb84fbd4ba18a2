/- A node of raft that is alone: released. -/
import Derived.Test.YtdeaelbelcjhcaaDoorRaft8

namespace Go.Proofs.YtdeaelbelcjhcaaDoor
open Go.RowKit

theorem infoD : ∃ i z, Tryd.prog.info? 98 = some i ∧ i.zero = some z ∧ i.size = 2 ∧ i.bytes = 16 ∧ z.cells.size = 2 := by
  have h : (Tryd.prog.info? 98).map (fun i => (i.size, i.bytes, (i.zero.map fun z => z.cells.size))) = some (2, 16, some 2) := by kernel_rfl
  obtain ⟨i, hi, hx⟩ := Option.map_eq_some_iff.1 h
  simp only [Prod.mk.injEq] at hx
  obtain ⟨z, hz, hc⟩ := Option.map_eq_some_iff.1 hx.2.2
  exact ⟨i, z, hi, hz, hx.1, hx.2.1, hc⟩

set_option maxRecDepth 100000 in
set_option maxHeartbeats 8000000 in
theorem rreleased1 (b pb rb ro c : Nat) (r : Rf) (nx mt ak tag ix : Int) (w : World) (hB : Blk w b 63 r.cells) (hP : Blk w pb 78 (peer nx mt ak)) (h1 : r.n = 1) (hps : r.ps = (some ⟨pb, 0, none⟩, 1, 1)) (hrs : r.rs = (some ⟨rb, ro, none⟩, 1, c)) (hdn : r.dn = (none, 0, 0))
    (hR : Sl w 3 (some ⟨rb, ro, none⟩) 1 c [.int .u64 tag, .int .u64 ix, .int .u64 ak]) :
    Calls Tryd.prog 33 #[.pointer (some ⟨b, 0, none⟩)] w fun e w' => ∃ ao c' ao2 c2, e = .returned (.tuple #[]) ∧ Blk w' b 63 ({ r with dn := (ao, 1, c'), rs := (ao2, 0, c2) } : Rf).cells ∧ Sl w' 2 ao 1 c' [.int .u64 tag, .int .u64 ix] ∧ (∀ ad, ao2 = some ad → ad.spot = none) ∧ (∀ ad, ao = some ad → w.heap.size ≤ ad.block) ∧ Keeps [b] w w' := by
  have hc := hB.cell
  simp only [Rf.cells, hps, hrs, hdn] at hc
  have hl := hB.lt
  have hcP := hP.cell
  have hlP := hP.lt
  have e0 := hR.cell _ rfl 0 _ rfl
  have e1 := hR.cell _ rfl 1 _ rfl
  have e2 := hR.cell _ rfl 2 _ rfl
  simp only [Nat.add_zero] at e0
  have hc1 : (1 : Int) ≤ (c : Int) := by have := hR.cap; omega
  go_enter Tryd.func33, Tryd.ntmps33
  go_wp2_with fail
  refine wp_loop_rounds 2 ?_
  rw [rounds_succ]
  go_wp2_with fail
  refine wp_loop_rounds 2 ?_
  rw [rounds_succ]
  go_wp2_with fail
  have hX1 := Blk.fresh w 78 (peer nx mt ak)
  have hB1 := hB.alloc (.cells (peer nx mt ak) 78)
  have hk1 := (Keeps.refl [b] w).alloc (.cells (peer nx mt ak) 78)
  have hR1 := hR.keep0 ((Keeps.refl [] w).alloc (.cells (peer nx mt ak) 78))
  generalize World.alloc w _ = w1 at *
  generalize w.heap.size = xb at *
  clear hc hl hcP hlP e0 e1 e2
  have hc := hB1.cell
  simp only [Rf.cells, hps, hrs, hdn] at hc
  have hl := hB1.lt
  have hcX := hX1.cell
  have hlX := hX1.lt
  have e0 := hR1.cell _ rfl 0 _ rfl
  have e1 := hR1.cell _ rfl 1 _ rfl
  have e2 := hR1.cell _ rfl 2 _ rfl
  simp only [Nat.add_zero] at e0
  go_quiet (fail)
  have hB2 := hB1.drewN nq
  have hk2 := hk1.drewN nq
  have hR2 := hR1.keep0 ((Keeps.refl [] w1).drewN nq)
  generalize World.drewN w1 nq = w2 at *
  clear hc hl hcX hlX e0 e1 e2 hX1 hB1 hk1 hR1
  go_wp2_with fail
  rw [rounds_succ]
  go_wp2_with fail
  have M := rmost b r 1 w2 hB2 (by omega) (by omega)
  have hd : decide (r.n < 2 * 1) = true := by rw [h1]; decide
  rw [hd] at M
  refine M.mono ?_
  rintro e w' ⟨rfl, rfl⟩
  clear M
  go_wp2_with fail
  obtain ⟨i, z, hi, hz, hsz, hby, hzc⟩ := infoD
  generalize hw2 : w' = w2 at *
  clear hw2
  have hc := hB2.cell
  simp only [Rf.cells, hps, hrs, hdn] at hc
  have hl := hB2.lt
  have e0 := hR2.cell _ rfl 0 _ rfl
  have e1 := hR2.cell _ rfl 1 _ rfl
  simp only [Nat.add_zero] at e0
  have hrl : rb < w2.heap.size := hR2.lt rfl (by simp)
  have hBa := hB2.drew.alloc (.cells #[.int .u64 tag, .int .u64 ix] 98)
  have hka := hk2.drew.alloc (.cells #[.int .u64 tag, .int .u64 ix] 98)
  have hRa := hR2.keep0 (((Keeps.refl [] w2).drew).alloc (.cells #[.int .u64 tag, .int .u64 ix] 98))
  have hTa : Sl (w2.drew.alloc (.cells #[.int .u64 tag, .int .u64 ix] 98)) 2 (some ⟨w2.heap.size, 0, none⟩) 1 1 [.int .u64 tag, .int .u64 ix] := Sl.of_blk (Blk.fresh_at w2.drew 98 #[.int .u64 tag, .int .u64 ix] rfl) rfl (by decide) (by intro u hu; simp at hu; rcases hu with rfl | rfl <;> rfl)
  have hSm := Sl.none (w2.drew.alloc (.cells #[.int .u64 tag, .int .u64 ix] 98)) 2
  have hlb := hBa.lt
  have hSw : w2.drew.cell? ⟨b, 19, none⟩ = some (.slice none 0 0) ∧ w2.drew.cell? ⟨b, 14, none⟩ = some (.slice (some ⟨rb, ro, none⟩) 1 c) ∧ w2.drew.cell? ⟨rb, ro, none⟩ = some (.int .u64 tag) ∧ w2.drew.cell? ⟨rb, ro + 1, none⟩ = some (.int .u64 ix) := ⟨by go_simp, by go_simp, by go_simp, by go_simp⟩
  refine startT (n0 := 23) (S := fun w0 => w0.cell? ⟨b, 19, none⟩ = some (.slice none 0 0) ∧ w0.cell? ⟨b, 14, none⟩ = some (.slice (some ⟨rb, ro, none⟩) 1 c) ∧ w0.cell? ⟨rb, ro, none⟩ = some (.int .u64 tag) ∧ w0.cell? ⟨rb, ro + 1, none⟩ = some (.int .u64 ix)) (by kernel_rfl) ?_
  refine takeT (i := 0) (v := ?_) rfl (by kernel_rfl) (fun _ _ _ h => h) (Or.inl ⟨by rfl, fun w0 hw0 => ?_⟩) hSw ?_
  rotate_left
  · go_simp
    try with_reducible rfl
  try go_simp
  refine takeT (i := 1) (v := ?_) rfl (by kernel_rfl) (fun _ _ _ h => h) (Or.inl ⟨by rfl, fun w0 hw0 => ?_⟩) hSw ?_
  rotate_left
  · go_simp
    try with_reducible rfl
  try go_simp
  refine takeT (i := 2) (v := ?_) rfl (by kernel_rfl) (fun _ _ _ h => h) (Or.inl ⟨by rfl, fun w0 hw0 => ?_⟩) hSw ?_
  rotate_left
  · go_simp
    try with_reducible rfl
  try go_simp
  refine takeT (i := 3) (v := ?_) rfl (by kernel_rfl) (fun _ _ _ h => h) (Or.inl ⟨by rfl, fun w0 hw0 => ?_⟩) hSw ?_
  rotate_left
  · go_simp
    try with_reducible rfl
  try go_simp
  refine takeT (i := 4) (v := ?_) rfl (by kernel_rfl) (fun _ _ _ h => h) (Or.inl ⟨by rfl, fun w0 hw0 => ?_⟩) hSw ?_
  rotate_left
  · go_simp
    try with_reducible rfl
  try go_simp
  refine takeT (i := 5) (v := ?_) rfl (by kernel_rfl) (fun _ _ _ h => h) (Or.inl ⟨by rfl, fun w0 hw0 => ?_⟩) hSw ?_
  rotate_left
  · go_simp
    try with_reducible rfl
  try go_simp
  refine takeT (i := 6) (v := ?_) rfl (by kernel_rfl) (fun _ _ _ h => h) (Or.inl ⟨by rfl, fun w0 hw0 => ?_⟩) hSw ?_
  rotate_left
  · go_simp
    try with_reducible rfl
  try go_simp
  refine takeT (i := 7) (v := ?_) rfl (by kernel_rfl) (fun _ _ _ h => h) (Or.inl ⟨by rfl, fun w0 hw0 => ?_⟩) hSw ?_
  rotate_left
  · go_simp
    try with_reducible rfl
  try go_simp
  refine takeT (i := 8) (v := ?_) rfl (by kernel_rfl) (fun _ _ _ h => h) (Or.inl ⟨by rfl, fun w0 hw0 => ?_⟩) hSw ?_
  rotate_left
  · go_simp
    try with_reducible rfl
  try go_simp
  refine takeT (i := 9) (v := ?_) rfl (by kernel_rfl) (fun _ _ _ h => h) (Or.inl ⟨by rfl, fun w0 hw0 => ?_⟩) hSw ?_
  rotate_left
  · go_simp
    try with_reducible rfl
  try go_simp
  refine takeT (i := 10) (v := ?_) rfl (by kernel_rfl) (fun _ _ _ h => h) (Or.inl ⟨by rfl, fun w0 hw0 => ?_⟩) hSw ?_
  rotate_left
  · go_simp
    try with_reducible rfl
  try go_simp
  refine takeT (i := 11) (v := ?_) rfl (by kernel_rfl) (fun _ _ _ h => h) (Or.inl ⟨by rfl, fun w0 hw0 => ?_⟩) hSw ?_
  rotate_left
  · go_simp
    try with_reducible rfl
  try go_simp
  refine takeT (i := 12) (v := ?_) rfl (by kernel_rfl) (fun _ _ _ h => h) (Or.inl ⟨by rfl, fun w0 hw0 => ?_⟩) hSw ?_
  rotate_left
  · go_simp
    try with_reducible rfl
  try go_simp
  refine takeT (i := 13) (v := ?_) rfl (by kernel_rfl) (fun _ _ _ h => h) (Or.inl ⟨by rfl, fun w0 hw0 => ?_⟩) hSw ?_
  rotate_left
  · go_simp
    try with_reducible rfl
  try go_simp
  refine takeT (i := 14) (v := ?_) rfl (by kernel_rfl) (fun _ _ _ h => h) (Or.inl ⟨by rfl, fun w0 hw0 => ?_⟩) hSw ?_
  rotate_left
  · go_simp
    try with_reducible rfl
  try go_simp
  refine takeT (i := 15) (v := ?_) rfl (by kernel_rfl) (fun _ _ _ h => h) (Or.inl ⟨by rfl, fun w0 hw0 => ?_⟩) hSw ?_
  rotate_left
  · go_simp
    try with_reducible rfl
  try go_simp
  refine takeT (i := 16) (v := ?_) rfl (by kernel_rfl) (fun _ _ _ h => h) (Or.inl ⟨by rfl, fun w0 hw0 => ?_⟩) hSw ?_
  rotate_left
  · go_simp
    try with_reducible rfl
  try go_simp
  refine takeT (i := 17) (v := ?_) rfl (by kernel_rfl) (fun _ _ _ h => h) (Or.inl ⟨by rfl, fun w0 hw0 => ?_⟩) hSw ?_
  rotate_left
  · go_simp
    try with_reducible rfl
  try go_simp
  refine takeT (i := 18) (v := ?_) rfl (by kernel_rfl) (fun _ _ _ h => h) (Or.inl ⟨by rfl, fun w0 hw0 => ?_⟩) hSw ?_
  rotate_left
  · go_simp
    try with_reducible rfl
  try go_simp
  refine takeT (i := 19) (v := ?_) rfl (by kernel_rfl) (fun _ _ _ h => h) (Or.inl ⟨by rfl, fun w0 hw0 => ?_⟩) hSw ?_
  rotate_left
  · go_simp
    try with_reducible rfl
  try go_simp
  refine takeT (i := 20) (v := ?_) rfl (by kernel_rfl) (fun _ _ _ h => h) (Or.inl ⟨by rfl, fun w0 hw0 => ?_⟩) hSw ?_
  rotate_left
  · go_simp
    try with_reducible rfl
  try go_simp
  refine oneT (i := 21) rfl (by kernel_rfl) (fun K hK => ?_)
  go_simp
  refine hK _ _ (fun _ => ?_) ?_
  · exact ⟨by go_simp, by go_simp, by go_simp, by go_simp⟩
  clear hK K
  try go_simp
  refine oneT (i := 22) rfl (by kernel_rfl) (fun K hK => ?_)
  refine step_append_sl rfl _ _ 34 rfl 98 i z 2 16 Tryd.underlying34 hi hz hsz hby hzc (by decide) _ _ _ _ rfl hSm _ 1 1 _ rfl hTa (by omega) (by decide) (by omega) ?_
  intro ao' c' w3 hS' hb' hk'
  have hB3 := hBa.keep hk' (by simp)
  have hR3 := hRa.keep0 hk'
  have f0 := hR3.cell _ rfl 0 _ rfl
  have f1 := hR3.cell _ rfl 1 _ rfl
  simp only [Nat.add_zero] at f0
  have hc3 := hB3.cell
  simp only [Rf.cells, hps, hrs, hdn] at hc3
  have hf3 := hB3.free
  have hl3 := hB3.lt
  refine hK _ _ (fun _ => ?_) ?_
  · exact ⟨by go_simp, by go_simp, by go_simp, by go_simp⟩
  clear hK K
  try go_simp
  refine oneT (i := 23) rfl (by kernel_rfl) (fun K hK => ?_)
  go_simp
  refine hK _ _ (fun h => absurd h (by decide)) ?_
  clear hK K
  try go_simp
  refine oneT (i := 24) rfl (by kernel_rfl) (fun K hK => ?_)
  go_simp
  refine hK _ _ (fun h => absurd h (by decide)) ?_
  clear hK K
  try go_simp
  refine oneT (i := 25) rfl (by kernel_rfl) (fun K hK => ?_)
  go_simp
  refine hK _ _ (fun h => absurd h (by decide)) ?_
  clear hK K
  try go_simp
  refine oneT (i := 26) rfl (by kernel_rfl) (fun K hK => ?_)
  go_simp
  refine hK _ _ (fun h => absurd h (by decide)) ?_
  clear hK K
  refine doneT (by kernel_rfl) ?_
  have hB4 := (hB3.put 19 (.slice ao' 1 c')).eq (cs' := ({ r with dn := (ao', 1, c') } : Rf).cells) (by simp [Rf.cells])
  have hks := (Keeps.refl [b] w3).set (p := ⟨b, 19, none⟩) (by simp) (.slice ao' 1 c')
  have hap2 : ∀ ad, ao' = some ad → w.heap.size ≤ ad.block := fun ad e => Nat.le_trans hka.size (hb' ad e).1
  have hap : ∀ ad, ao' = some ad → ad.block ≠ b := fun ad e => by have h2 := Nat.lt_of_lt_of_le hlb (hb' ad e).1; omega
  have hS4 := hS'.keep hks (fun ad e _ => by simpa using hap ad e)
  have hk4 : Keeps [b] w (w3.setCell ⟨b, 19, none⟩ (.slice ao' 1 c')) := (hka.trans hk'.of_nil).trans hks
  generalize World.setCell w3 _ _ = w4 at *
  clear hc hl e0 e1 hBa hka hRa hTa hSm hSw hB3 hR3 f0 f1 hc3 hf3 hl3 hk' hb' hS' hks hB2 hk2 hR2
  have hc := hB4.cell
  simp only [Rf.cells, hps, hrs] at hc
  have hl := hB4.lt
  have hf := hB4.free
  rcases (show c = 1 ∨ 1 < c by omega) with rfl | hc2
  · go_wp2_with fail
    rw [rounds_succ]
    go_wp2_with fail
    go_end0
    exact ⟨ao', c', some ⟨rb, ro, none⟩, 0, rfl, (hB4.put 14 _).eq (by simp [Rf.cells]), hS4.keep ((Keeps.refl [b] w4).set (p := ⟨b, 14, none⟩) (by simp) _) (fun ad e _ => by simpa using hap ad e), fun ad e => by cases e; rfl, hap2, hk4.set (by simp) _⟩
  · have hne : ¬ (c = 1) := by omega
    go_wp2_with fail
    rw [rounds_succ]
    go_wp2_with fail
    go_end0
    exact ⟨ao', c', some ⟨rb, ro + 3, none⟩, c - 1, rfl, (hB4.put 14 _).eq (by simp [Rf.cells]), hS4.keep ((Keeps.refl [b] w4).set (p := ⟨b, 14, none⟩) (by simp) _) (fun ad e _ => by simpa using hap ad e), fun ad e => by cases e; rfl, hap2, hk4.set (by simp) _⟩
end Go.Proofs.YtdeaelbelcjhcaaDoor
