/- Generic slices: Delete. -/
import Derived.Test.YtknnhnpcgefchaaDoorTr3

namespace Go.Proofs.YtknnhnpcgefchaaDoor
open Go.RowKit Go.Lib

set_option maxRecDepth 100000 in
set_option maxHeartbeats 4000000 in
theorem delP (N g c m k : Nat) (xs : List Value) (w : World) (hm : m ≤ 1000000) (hk : k ≤ m) (hO : w.ownsRow N 64 2 (.slice (some ⟨g, 0, none⟩) (m + 1) c) (m + 1) xs) (h1 : ∀ u ∈ xs, u.oneCell' = true) :
    Calls Tryd.prog 38 #[.slice (some ⟨g, 0, none⟩) (m + 1) c, .int .i64 (k : Int), .int .i64 ((k : Int) + 1)] w fun e w' => e = .returned (.slice (some ⟨g, 0, none⟩) m c) ∧ w'.ownsRow N 64 2 (.slice (some ⟨g, 0, none⟩) m c) m (xs.take (k * 2) ++ xs.drop ((k + 1) * 2)) ∧ Keeps [g] w w' := by
  obtain ⟨i, z, hi, hz, hsz, hby, hzc, hz1⟩ := infoTP
  have hS := own_read hO h1
  have hcap := hS.cap
  have hmx := hS.most
  have hlx := hS.len
  unfold maxLen at hmx
  have n1 : (k : Int) ≤ (k : Int) + 1 := by omega
  have n2 : (k : Int) + 1 ≤ (m : Int) + 1 := by omega
  have n3 : (m : Int) + 1 ≤ (c : Int) := by omega
  have n4 : ((k : Int) == (k : Int) + 1) = false := by simp; omega
  have n5 : (k : Int) ≤ (c : Int) := by omega
  go_enter Tryd.func38, Tryd.ntmps38
  go_upto_region 5 with (fail)
  have hSw : ∀ p ∈ ([] : List (Nat × (World → Prop))), p.2 w.drew := by simp
  have hT := own_keep (own_take hO (k := k) (by omega)) ((Keeps.refl [] w).drew) (by simp)
  obtain ⟨g', cur, hg', hNg, hB, hcs, hnc, hcm, htk⟩ := ownsRow_blk hO (by omega) (by decide)
  simp only [Option.some.injEq, Addr.mk.injEq, and_true] at hg'
  subst hg'
  replace hB := hB.drew
  have htk2 : cur.toList.take (k * 2) = xs.take (k * 2) := by
    have := congrArg (List.take (k * 2)) htk
    rw [List.take_take, Nat.min_eq_left (by omega)] at this
    exact this
  have hkm : k + (m - k) = m := by omega
  have hdl : (xs.drop ((k + 1) * 2)).length = (m - k) * 2 := by rw [List.length_drop, hlx]; omega
  have n0 : (0 : Int) ≤ (k : Int) + 1 := by omega
  have n7 : ¬ (c = m) := by omega
  have n8 : (m : Int) ≤ (m : Int) + 1 := by omega
  have n9 : (m : Int) + 1 ≤ (c : Int) := by omega
  have hD := (hS.drop (k := k + 1) (by omega)).keep0 ((Keeps.refl [] w).drew)
  rw [show m + 1 - (k + 1) = m - k by omega] at hD
  refine startU [] (by kernel_rfl) ?_
  by_cases hck : c = k + 1
  · obtain rfl : m = k := by omega
    have hD' : Sl w.drew 2 (some ⟨g, 0, none⟩) 0 0 (xs.drop ((m + 1) * 2)) := by
      rw [if_pos hck, show c - (m + 1) = 0 by omega, Nat.sub_self] at hD
      exact hD
    subst hck
    refine takeU (i := 0) (v := ?_) rfl (by kernel_rfl) (fun _ _ _ h => h) (Or.inl ⟨by rfl, fun w0 hw0 => ?_⟩) (fun p hp _ => hSw p hp) ?_
    rotate_left
    · simp [Reads] at hw0
      go_simp
      try with_reducible rfl
    try go_simp
    refine takeU (i := 1) (v := ?_) rfl (by kernel_rfl) (fun _ _ _ h => h) (Or.inl ⟨by rfl, fun w0 hw0 => ?_⟩) (fun p hp _ => hSw p hp) ?_
    rotate_left
    · simp [Reads] at hw0
      go_simp
      try with_reducible rfl
    try go_simp
    refine takeU (i := 2) (v := ?_) rfl (by kernel_rfl) (fun _ _ _ h => h) (Or.inl ⟨by rfl, fun w0 hw0 => ?_⟩) (fun p hp _ => hSw p hp) ?_
    rotate_left
    · simp [Reads] at hw0
      go_simp
      try with_reducible rfl
    try go_simp
    refine takeU (i := 3) (v := ?_) rfl (by kernel_rfl) (fun _ _ _ h => h) (Or.inl ⟨by rfl, fun w0 hw0 => ?_⟩) (fun p hp _ => hSw p hp) ?_
    rotate_left
    · simp [Reads] at hw0
      go_simp
      try with_reducible rfl
    try go_simp
    refine takeU (i := 4) (v := ?_) rfl (by kernel_rfl) (fun _ _ _ h => h) (Or.inl ⟨by rfl, fun w0 hw0 => ?_⟩) (fun p hp _ => hSw p hp) ?_
    rotate_left
    · simp [Reads] at hw0
      go_simp
      try with_reducible rfl
    try go_simp
    refine takeU (i := 5) (v := ?_) rfl (by kernel_rfl) (fun _ _ _ h => h) (Or.inl ⟨by rfl, fun w0 hw0 => ?_⟩) (fun p hp _ => hSw p hp) ?_
    rotate_left
    · simp [Reads] at hw0
      go_simp
      try with_reducible rfl
    try go_simp
    refine oneU (i := 6) rfl (by kernel_rfl) (fun K hK => ?_)
    refine step_append_roomB rfl _ _ 52 52 rfl N 64 i 2 Tryd.underlying52 hi hsz g m (m + 1) (xs.take (m * 2)) rfl hT _ rfl 0 _ (hD'.src Tryd.underlying52) (by omega) cur hB hcs ?_
    intro w2 hB2 hk2
    simp only [Nat.add_zero]
    refine hK _ _ (fun p hp => by simp at hp) ?_
    clear hK K
    try go_simp
    refine oneU (i := 7) rfl (by kernel_rfl) (fun K hK => ?_)
    go_simp
    refine hK _ _ (fun p hp => by simp at hp) ?_
    clear hK K
    refine doneU (by kernel_rfl) ?_
    have hz2 : (overlay cur (m * 2) (xs.drop ((m + 1) * 2))).size = (m + 1) * 2 := by rw [overlay_size (by omega), hcs]
    go_upto_region 7 with (refine wpList_clear_at _ rfl _ 52 rfl 64 i z 2 Tryd.underlying52 hi hz hzc (by decide) hz1 g (m * 2) 1 1 rfl 64 _ hB2 (by omega) ?_; intro w3 zs hzl hB3 hk3)
    have hkk : Keeps [g] w w3 := ((Keeps.refl [g] w).drew.trans hk2).trans hk3
    have hfin : (overlay (overlay cur (m * 2) (xs.drop ((m + 1) * 2))) (m * 2) zs).toList.take (m * 2) = xs.take (m * 2) ++ xs.drop ((m + 1) * 2) := by
      rw [overlay_take (by omega) (Nat.le_refl _)]
      have e := overlay_upto (cur := cur) (o := m * 2) (vs := xs.drop ((m + 1) * 2)) (by omega)
      rw [show m * 2 + (xs.drop ((m + 1) * 2)).length = m * 2 by omega, htk2] at e
      exact e
    have hO3 := hB3.owns hNg (by rw [overlay_size (by omega), hz2]) (by omega) hcm hfin
    clear hB3 hB2 hB hfin
    go_wp2_with fail
    go_ret
    exact ⟨rfl, hO3, hkk⟩
  have hD' : Sl w.drew 2 (some ⟨g, (k + 1) * 2, none⟩) (m - k) (c - (k + 1)) (xs.drop ((k + 1) * 2)) := by
    rw [if_neg hck] at hD
    simpa [addr_add] using hD
  refine takeU (i := 0) (v := ?_) rfl (by kernel_rfl) (fun _ _ _ h => h) (Or.inl ⟨by rfl, fun w0 hw0 => ?_⟩) (fun p hp _ => hSw p hp) ?_
  rotate_left
  · simp [Reads] at hw0
    go_simp
    try with_reducible rfl
  try go_simp
  refine takeU (i := 1) (v := ?_) rfl (by kernel_rfl) (fun _ _ _ h => h) (Or.inl ⟨by rfl, fun w0 hw0 => ?_⟩) (fun p hp _ => hSw p hp) ?_
  rotate_left
  · simp [Reads] at hw0
    go_simp
    try with_reducible rfl
  try go_simp
  refine takeU (i := 2) (v := ?_) rfl (by kernel_rfl) (fun _ _ _ h => h) (Or.inl ⟨by rfl, fun w0 hw0 => ?_⟩) (fun p hp _ => hSw p hp) ?_
  rotate_left
  · simp [Reads] at hw0
    go_simp
    try with_reducible rfl
  try go_simp
  refine takeU (i := 3) (v := ?_) rfl (by kernel_rfl) (fun _ _ _ h => h) (Or.inl ⟨by rfl, fun w0 hw0 => ?_⟩) (fun p hp _ => hSw p hp) ?_
  rotate_left
  · simp [Reads] at hw0
    go_simp
    try with_reducible rfl
  try go_simp
  refine takeU (i := 4) (v := ?_) rfl (by kernel_rfl) (fun _ _ _ h => h) (Or.inl ⟨by rfl, fun w0 hw0 => ?_⟩) (fun p hp _ => hSw p hp) ?_
  rotate_left
  · simp [Reads] at hw0
    go_simp
    try with_reducible rfl
  try go_simp
  refine takeU (i := 5) (v := ?_) rfl (by kernel_rfl) (fun _ _ _ h => h) (Or.inl ⟨by rfl, fun w0 hw0 => ?_⟩) (fun p hp _ => hSw p hp) ?_
  rotate_left
  · simp [Reads] at hw0
    go_simp
    try with_reducible rfl
  try go_simp
  refine oneU (i := 6) rfl (by kernel_rfl) (fun K hK => ?_)
  refine step_append_roomB rfl _ _ 52 52 rfl N 64 i 2 Tryd.underlying52 hi hsz g k c (xs.take (k * 2)) rfl hT _ rfl (m - k) _ (hD'.src Tryd.underlying52) (by omega) cur hB hcs ?_
  intro w2 hB2 hk2
  rw [hkm]
  refine hK _ _ (fun p hp => by simp at hp) ?_
  clear hK K
  try go_simp
  refine oneU (i := 7) rfl (by kernel_rfl) (fun K hK => ?_)
  go_simp
  refine hK _ _ (fun p hp => by simp at hp) ?_
  clear hK K
  refine doneU (by kernel_rfl) ?_
  have hz2 : (overlay cur (k * 2) (xs.drop ((k + 1) * 2))).size = c * 2 := by rw [overlay_size (by omega), hcs]
  go_upto_region 7 with (refine wpList_clear_at _ rfl _ 52 rfl 64 i z 2 Tryd.underlying52 hi hz hzc (by decide) hz1 g (m * 2) 1 (c - m) rfl 64 _ hB2 (by omega) ?_; intro w3 zs hzl hB3 hk3)
  have hkk : Keeps [g] w w3 := ((Keeps.refl [g] w).drew.trans hk2).trans hk3
  have hfin : (overlay (overlay cur (k * 2) (xs.drop ((k + 1) * 2))) (m * 2) zs).toList.take (m * 2) = xs.take (k * 2) ++ xs.drop ((k + 1) * 2) := by
    rw [overlay_take (by omega) (Nat.le_refl _)]
    have e := overlay_upto (cur := cur) (o := k * 2) (vs := xs.drop ((k + 1) * 2)) (by omega)
    rw [show k * 2 + (xs.drop ((k + 1) * 2)).length = m * 2 by omega, htk2] at e
    exact e
  have hO3 := hB3.owns hNg (by rw [overlay_size (by omega), hz2]) (by omega) hcm hfin
  clear hB3 hB2 hB hfin
  go_wp2_with fail
  go_ret
  exact ⟨rfl, hO3, hkk⟩
end Go.Proofs.YtknnhnpcgefchaaDoor
