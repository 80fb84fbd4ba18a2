/- The log's methods, one contract each: Add. -/
import Derived.Test.YtdeaelbelcjhcaaDoorLog4
import Derived.Test.YtdeaelbelcjhcaaDoorReg
import Derived.Deep.DeepCutAuto
import Derived.Deep.CutBlock

namespace Go.Proofs.YtdeaelbelcjhcaaDoor
open Go.RowKit

theorem add_fin {w W w2 : World} {b : Nat} {g : Lg} {en : En} {ao ao' : Option Addr} {c c' : Nat} (hB2 : Blk w2 b 71 #[.int .u64 g.base, .int .u64 g.tm, .slice ao g.es.length c])
    (hS' : Sl w2 5 ao' (g.es.length + 1) c' (ens g.es ++ En.cells en)) (hb' : ∀ ad, ao' = some ad → W.heap.size ≤ ad.block ∧ ad.block < w2.heap.size) (hbl : b < W.heap.size) (hka : Keeps [b] w W) (hk' : Keeps [] W w2) :
    ∃ a2 c2, Blk (w2.setCell ⟨b, 2, none⟩ (.slice ao' (g.es.length + 1) c')) b 71 #[.int .u64 g.base, .int .u64 g.tm, .slice a2 (g.es.length + 1) c2] ∧ Sl (w2.setCell ⟨b, 2, none⟩ (.slice ao' (g.es.length + 1) c')) 5 a2 (g.es.length + 1) c2 (ens (g.es ++ [en])) ∧
      (∀ ad, a2 = some ad → ad.block ≠ b) ∧ Keeps [b] w (w2.setCell ⟨b, 2, none⟩ (.slice ao' (g.es.length + 1) c')) := by
  refine ⟨ao', c', hB2.put 2 _, ?_, fun ad e => by have := (hb' ad e).1; omega, (hka.trans hk'.of_nil).set (by simp) _⟩
  rw [ens_append]
  have : ens [en] = En.cells en := by simp [ens]
  rw [this]
  exact hS'.keep (L := [b]) ((Keeps.refl [b] w2).set (by simp) _) (fun ad e _ => by have := (hb' ad e).1; simp; omega)

set_option maxRecDepth 100000 in
set_option maxHeartbeats 4000000 in
theorem ladd (b : Nat) (g : Lg) (en : En) (w : World) (h : LogAt w b g) (h0 : 0 ≤ g.base) (h1 : g.last < 1000000) :
    Calls Tryd.prog 56 #[.pointer (some ⟨b, 0, none⟩), .agg #[.int .u64 (en).term, .int .i64 (en).kind, .int .u64 (en).client, .int .u64 (en).seq, .string (en).sql]] w fun e w' => e = .returned (.int .u64 (g.last + 1)) ∧ LogAt w' b { g with es := g.es ++ [en] } ∧ Keeps [b] w w' := by
  obtain ⟨i, z, hi, hz, hsz, hby, hzc⟩ := infoE
  obtain ⟨ao, c, hB, hS, hap⟩ := h
  have hX := Blk.fresh w 69 #[.int .u64 (en).term, .int .i64 (en).kind, .int .u64 (en).client, .int .u64 (en).seq, .string (en).sql]
  have hB1 := hB.alloc (.cells #[.int .u64 (en).term, .int .i64 (en).kind, .int .u64 (en).client, .int .u64 (en).seq, .string (en).sql] 69)
  have hS1 := hS.keep0 ((Keeps.refl [] w).alloc (.cells #[.int .u64 (en).term, .int .i64 (en).kind, .int .u64 (en).client, .int .u64 (en).seq, .string (en).sql] 69))
  have hk1 := (Keeps.refl [b] w).alloc (.cells #[.int .u64 (en).term, .int .i64 (en).kind, .int .u64 (en).client, .int .u64 (en).seq, .string (en).sql] 69)
  have hlw := hB.lt
  go_enter Tryd.func56, Tryd.ntmps56
  go_upto_region 1 with (fail)
  generalize hW : w.alloc (.cells #[.int .u64 (en).term, .int .i64 (en).kind, .int .u64 (en).client, .int .u64 (en).seq, .string (en).sql] 69) = w1 at *
  clear hW
  have hc := hB1.cell
  have hf := hB1.free
  have hl := hB1.lt
  have hcX := hX.cell
  have hlX := hX.lt
  have hle : g.es.length ≤ 1000000 := by unfold Lg.last at h1; omega
  have hcap : (g.es.length : Int) ≤ (c : Int) := by have := hS.cap; omega
  have hSa := (hS1.keep0 (((Keeps.refl [] w1).drew).alloc (.cells #[.int .u64 (en).term, .int .i64 (en).kind, .int .u64 (en).client, .int .u64 (en).seq, .string (en).sql] 69)))
  have hTa : Sl (w1.drew.alloc (.cells #[.int .u64 (en).term, .int .i64 (en).kind, .int .u64 (en).client, .int .u64 (en).seq, .string (en).sql] 69)) 5 (some ⟨w1.heap.size, 0, none⟩) 1 1 (En.cells en) := Sl.of_blk (Blk.fresh_at w1.drew 69 #[.int .u64 (en).term, .int .i64 (en).kind, .int .u64 (en).client, .int .u64 (en).seq, .string (en).sql] rfl) rfl (by decide) (ens_one [en])
  have hSm : Sl (w1.drew.alloc (.cells #[.int .u64 (en).term, .int .i64 (en).kind, .int .u64 (en).client, .int .u64 (en).seq, .string (en).sql] 69)) 5 ao g.es.length g.es.length (ens g.es) := by
    have := hSa.take (k := g.es.length) (c' := g.es.length) (Nat.le_refl _) (Nat.le_refl _) hS.cap
    rwa [← ens_length, List.take_length] at this
  have hBa := hB1.drew.alloc (.cells #[.int .u64 (en).term, .int .i64 (en).kind, .int .u64 (en).client, .int .u64 (en).seq, .string (en).sql] 69)
  have hlb := hBa.lt
  have hXa := hX.drew.alloc (.cells #[.int .u64 (en).term, .int .i64 (en).kind, .int .u64 (en).client, .int .u64 (en).seq, .string (en).sql] 69)
  have hka := hk1.drew.alloc (.cells #[.int .u64 (en).term, .int .i64 (en).kind, .int .u64 (en).client, .int .u64 (en).seq, .string (en).sql] 69)
  clear hf hB hS hX hB1 hS1 hk1 hSa hap hlw
  go_cut [] (fun wx => ∃ ao' c', Blk wx b 71 #[.int .u64 g.base, .int .u64 g.tm, .slice ao' (g.es.length + 1) c'] ∧ Sl wx 5 ao' (g.es.length + 1) c' (ens (g.es ++ [en])) ∧ (∀ ad, ao' = some ad → ad.block ≠ b) ∧ Keeps [b] w wx)
  case first =>
    have hSw : w1.drew.cell? ⟨b, 2, none⟩ = some (.slice ao g.es.length c) ∧ w1.drew.cell? ⟨w.heap.size, 0, none⟩ = some (.int .u64 en.term) ∧ w1.drew.cell? ⟨w.heap.size, 1, none⟩ = some (.int .i64 en.kind) ∧ w1.drew.cell? ⟨w.heap.size, 2, none⟩ = some (.int .u64 en.client) ∧ w1.drew.cell? ⟨w.heap.size, 3, none⟩ = some (.int .u64 en.seq) ∧ w1.drew.cell? ⟨w.heap.size, 4, none⟩ = some (.string en.sql) :=
      ⟨by go_simp, by go_simp, by go_simp, by go_simp, by go_simp, by go_simp⟩
    refine startT (n0 := 19) (S := fun w' => w'.cell? ⟨b, 2, none⟩ = some (.slice ao g.es.length c) ∧ w'.cell? ⟨w.heap.size, 0, none⟩ = some (.int .u64 en.term) ∧ w'.cell? ⟨w.heap.size, 1, none⟩ = some (.int .i64 en.kind) ∧ w'.cell? ⟨w.heap.size, 2, none⟩ = some (.int .u64 en.client) ∧ w'.cell? ⟨w.heap.size, 3, none⟩ = some (.int .u64 en.seq) ∧ w'.cell? ⟨w.heap.size, 4, none⟩ = some (.string en.sql)) (by kernel_rfl) ?_
    refine takeT (i := 0) (v := ?_) rfl (by kernel_rfl) (fun _ _ _ h => h) (Or.inl ⟨by rfl, fun w' hw' => ?_⟩) hSw ?_
    rotate_left
    · go_simp
      try with_reducible rfl
    try go_simp
    refine takeT (i := 1) (v := ?_) rfl (by kernel_rfl) (fun _ _ _ h => h) (Or.inl ⟨by rfl, fun w' hw' => ?_⟩) hSw ?_
    rotate_left
    · go_simp
      try with_reducible rfl
    try go_simp
    refine takeT (i := 2) (v := ?_) rfl (by kernel_rfl) (fun _ _ _ h => h) (Or.inl ⟨by rfl, fun w' hw' => ?_⟩) hSw ?_
    rotate_left
    · go_simp
      try with_reducible rfl
    try go_simp
    refine takeT (i := 3) (v := ?_) rfl (by kernel_rfl) (fun _ _ _ h => h) (Or.inl ⟨by rfl, fun w' hw' => ?_⟩) hSw ?_
    rotate_left
    · go_simp
      try with_reducible rfl
    try go_simp
    refine takeT (i := 4) (v := ?_) rfl (by kernel_rfl) (fun _ _ _ h => h) (Or.inl ⟨by rfl, fun w' hw' => ?_⟩) hSw ?_
    rotate_left
    · go_simp
      try with_reducible rfl
    try go_simp
    refine takeT (i := 5) (v := ?_) rfl (by kernel_rfl) (fun _ _ _ h => h) (Or.inl ⟨by rfl, fun w' hw' => ?_⟩) hSw ?_
    rotate_left
    · go_simp
      try with_reducible rfl
    try go_simp
    refine takeT (i := 6) (v := ?_) rfl (by kernel_rfl) (fun _ _ _ h => h) (Or.inl ⟨by rfl, fun w' hw' => ?_⟩) hSw ?_
    rotate_left
    · go_simp
      try with_reducible rfl
    try go_simp
    refine takeT (i := 7) (v := ?_) rfl (by kernel_rfl) (fun _ _ _ h => h) (Or.inl ⟨by rfl, fun w' hw' => ?_⟩) hSw ?_
    rotate_left
    · go_simp
      try with_reducible rfl
    try go_simp
    refine takeT (i := 8) (v := ?_) rfl (by kernel_rfl) (fun _ _ _ h => h) (Or.inl ⟨by rfl, fun w' hw' => ?_⟩) hSw ?_
    rotate_left
    · go_simp
      try with_reducible rfl
    try go_simp
    refine takeT (i := 9) (v := ?_) rfl (by kernel_rfl) (fun _ _ _ h => h) (Or.inl ⟨by rfl, fun w' hw' => ?_⟩) hSw ?_
    rotate_left
    · go_simp
      try with_reducible rfl
    try go_simp
    refine takeT (i := 10) (v := ?_) rfl (by kernel_rfl) (fun _ _ _ h => h) (Or.inl ⟨by rfl, fun w' hw' => ?_⟩) hSw ?_
    rotate_left
    · go_simp
      try with_reducible rfl
    try go_simp
    refine takeT (i := 11) (v := ?_) rfl (by kernel_rfl) (fun _ _ _ h => h) (Or.inl ⟨by rfl, fun w' hw' => ?_⟩) hSw ?_
    rotate_left
    · go_simp
      try with_reducible rfl
    try go_simp
    refine takeT (i := 12) (v := ?_) rfl (by kernel_rfl) (fun _ _ _ h => h) (Or.inl ⟨by rfl, fun w' hw' => ?_⟩) hSw ?_
    rotate_left
    · go_simp
      try with_reducible rfl
    try go_simp
    refine takeT (i := 13) (v := ?_) rfl (by kernel_rfl) (fun _ _ _ h => h) (Or.inl ⟨by rfl, fun w' hw' => ?_⟩) hSw ?_
    rotate_left
    · go_simp
      try with_reducible rfl
    try go_simp
    refine takeT (i := 14) (v := ?_) rfl (by kernel_rfl) (fun _ _ _ h => h) (Or.inl ⟨by rfl, fun w' hw' => ?_⟩) hSw ?_
    rotate_left
    · go_simp
      try with_reducible rfl
    try go_simp
    refine takeT (i := 15) (v := ?_) rfl (by kernel_rfl) (fun _ _ _ h => h) (Or.inl ⟨by rfl, fun w' hw' => ?_⟩) hSw ?_
    rotate_left
    · go_simp
      try with_reducible rfl
    try go_simp
    refine takeT (i := 16) (v := ?_) rfl (by kernel_rfl) (fun _ _ _ h => h) (Or.inl ⟨by rfl, fun w' hw' => ?_⟩) hSw ?_
    rotate_left
    · go_simp
      try with_reducible rfl
    try go_simp
    refine oneT (i := 17) rfl (by kernel_rfl) (fun K hK => ?_)
    go_simp
    refine hK _ _ (fun _ => ?_) ?_
    · exact ⟨by go_simp, by go_simp, by go_simp, by go_simp, by go_simp, by go_simp⟩
    clear hK K
    try go_simp
    refine oneT (i := 18) rfl (by kernel_rfl) (fun K hK => ?_)
    refine step_append_sl rfl _ _ 39 rfl 69 i z 5 48 Tryd.underlying39 hi hz hsz hby hzc (by decide) _ _ _ _ rfl hSm _ 1 1 _ rfl hTa (by omega) (by unfold maxLen; omega) (by omega) ?_
    intro ao' c' w2 hS' hb' hk'
    have hB2 := hBa.keep hk' (by simp)
    have hX2 := hXa.keep hk' (by simp)
    have hc2 := hB2.cell
    have hf2 := hB2.free
    have hl2 := hB2.lt
    have hcX2 := hX2.cell
    refine hK _ _ (fun _ => ?_) ?_
    · exact ⟨by go_simp, by go_simp, by go_simp, by go_simp, by go_simp, by go_simp⟩
    clear hK K
    try go_simp
    refine oneT (i := 19) rfl (by kernel_rfl) (fun K hK => ?_)
    go_simp
    refine hK _ _ (fun h => absurd h (by decide)) ?_
    clear hK K
    try go_simp
    refine oneT (i := 20) rfl (by kernel_rfl) (fun K hK => ?_)
    go_simp
    refine hK _ _ (fun h => absurd h (by decide)) ?_
    clear hK K
    try go_simp
    refine oneT (i := 21) rfl (by kernel_rfl) (fun K hK => ?_)
    go_simp
    refine hK _ _ (fun h => absurd h (by decide)) ?_
    clear hK K
    refine doneT (by kernel_rfl) ?_
    go_wp2_with fail
    go_meet
    exact add_fin hB2 hS' hb' hlb hka hk'
  case rest =>
    obtain ⟨ao', c', hB3, hS3, hap3, hk3⟩ := hcut
    have hL3 : LogAt wc b { g with es := g.es ++ [en] } := ⟨ao', c', by simpa using hB3, by simpa using hS3, fun ad e _ => hap3 ad e⟩
    go_wp2_with fail
    refine (llast b { g with es := g.es ++ [en] } wc hL3 h0 (by unfold Lg.last at *; simp; omega)).mono ?_
    rintro e w4 ⟨rfl, hk4⟩
    go_wp2
    go_ret
    exact ⟨by simp [Lg.last]; omega, hL3.keep0 hk4, hk3.trans hk4.of_nil⟩
end Go.Proofs.YtdeaelbelcjhcaaDoor
