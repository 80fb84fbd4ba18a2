/- Generic slices: Insert. -/
import Derived.Test.YtknnhnpcgefchaaDoorTr3

namespace Go.Proofs.YtknnhnpcgefchaaDoor
open Go.RowKit Go.Lib

set_option maxRecDepth 100000 in
set_option maxHeartbeats 4000000 in
/-- Insert of one -/
theorem insP (N : Nat) (ao : Option Addr) (n c k vb : Nat) (xs : List Value) (vs : Array Value) (w : World) (hO : w.ownsRow N 64 2 (.slice ao n c) n xs) (h1 : ∀ u ∈ xs, u.oneCell' = true) (hk : k ≤ n) (hn : n ≤ 1000000)
    (hV : Blk w vb 64 vs) (hvs : vs.size = 2) (hv1 : ∀ u ∈ vs.toList, u.oneCell' = true) (hvb : ∀ x ∈ blks ao, vb ≠ x) (hN : N ≤ w.heap.size) :
    Calls Tryd.prog 34 #[.slice ao n c, .int .i64 (k : Int), .slice (some ⟨vb, 0, none⟩) 1 1] w fun e w' => ∃ ao' c', e = .returned (.slice ao' (n + 1) c') ∧ w'.ownsRow N 64 2 (.slice ao' (n + 1) c') (n + 1) (xs.take (k * 2) ++ vs.toList ++ xs.drop (k * 2)) ∧
      (∀ ad, ao' = some ad → ad.block ∈ blks ao ∨ w.heap.size ≤ ad.block) ∧ Keeps (blks ao) w w' := by
  obtain ⟨i, z, hi, hz, hsz, hby, hzc, hz1⟩ := infoTP
  have hS := own_read hO h1
  have hcap := hS.cap
  have hmx := hS.most
  unfold maxLen at hmx
  have hVS : Sl w 2 (some ⟨vb, 0, none⟩) 1 1 vs.toList := Sl.of_blk (n := 1) hV hvs (by decide) hv1
  have hlx := hS.len
  have n1 : (k : Int) ≤ (n : Int) := by omega
  have n1' : (0 : Int) ≤ (k : Int) := by omega
  by_cases hkn : k = n
  · subst hkn
    rcases (by omega : c = k ∨ ¬ c = k) with hck | hck
    · subst hck
      go_enter Tryd.func34, Tryd.ntmps34
      go_wp2_with (at_builtin; refine wpList_append_by _ rfl _ _ 52 52 rfl N 64 i z 2 48 Tryd.underlying52 hi hz hsz hby hzc _ _ _ xs rfl hO (.slice (some ⟨vb, 0, none⟩) 1 1) rfl 1 vs.toList (hVS.src Tryd.underlying52) (by unfold maxLen; omega) (by omega) hN ?_; intro a2 c2 w2 hO2 hka hba)
      go_ret
      refine ⟨a2, c2, rfl, ?_, hba, hka⟩
      rw [List.take_of_length_le (by omega), List.drop_of_length_le (by omega), List.append_nil]
      exact hO2
    · obtain ⟨bb, o, rfl⟩ := hS.at (by omega)
      go_enter Tryd.func34, Tryd.ntmps34
      go_wp2_with (at_builtin; refine wpList_append_by _ rfl _ _ 52 52 rfl N 64 i z 2 48 Tryd.underlying52 hi hz hsz hby hzc _ _ _ xs rfl hO (.slice (some ⟨vb, 0, none⟩) 1 1) rfl 1 vs.toList (hVS.src Tryd.underlying52) (by unfold maxLen; omega) (by omega) hN ?_; intro a2 c2 w2 hO2 hka hba)
      go_ret
      refine ⟨a2, c2, rfl, ?_, hba, hka⟩
      rw [List.take_of_length_le (by omega), List.drop_of_length_le (by omega), List.append_nil]
      exact hO2
  have n2 : ((k : Int) == (n : Int)) = false := by simp; omega
  have n2' : ¬ ((k : Int) = (n : Int)) := by omega
  obtain ⟨g, cur, hao, hNg, hB, hcs, hnc, hcm, htk⟩ := ownsRow_blk hO (by omega) (by decide)
  subst hao
  have hD : Sl w 2 (some ⟨g, k * 2, none⟩) (n - k) (c - k) (xs.drop (k * 2)) := by
    have := hS.drop (k := k) hk
    rw [if_neg (by omega)] at this
    simpa [addr_add] using this
  have hTk := own_take hO hk
  have hTS := hS.take (c' := c) hk (by omega) (Nat.le_refl _)
  have hck : ¬ (c = k) := by omega
  by_cases hg : c < n + 1
  · have n3 : ¬ ((n : Int) + 1 ≤ (c : Int)) := by omega
    have n4 : (c : Int) < (n : Int) + 1 := by omega
    have n5 : (k : Int) ≤ (c : Int) := by omega
    have n6 : (n : Int) + 1 - (k : Int) = ((n + 1 - k : Nat) : Int) := by omega
    go_enter Tryd.func34, Tryd.ntmps34
    go_upto_region 10 with (at_builtin; refine wpList_append_zeros _ rfl _ _ 52 3 rfl N 64 i z 2 48 .i64 Tryd.underlying52 Tryd.underlying3 hi hz hsz hby hzc (by decide) _ k c rfl _ hTS .i64 (n + 1 - k) rfl (by omega) (by omega) (by unfold maxLen; omega) (by omega) hN ?_; intro c1 w1 zs hzl hO1 hk1)
    have e1 : k + (n + 1 - k) = n + 1 := by omega
    rw [e1] at hO1 ⊢
    obtain ⟨g1, cur1, hg1, hNg1, hB1, hcs1, hnc1, hcm1, htk1⟩ := ownsRow_blk hO1 (by omega) (by decide)
    simp only [Option.some.injEq, Addr.mk.injEq, and_true] at hg1
    generalize hgs : w.heap.size = gs at *
    subst hg1
    have hne : g ≠ gs := by have := hB.lt; omega
    have hVS1 := hVS.keep0 hk1
    have m1 : ¬ (c1 = k) := by omega
    have m2 : (k : Int) ≤ (n : Int) + 1 := by omega
    have hzl2 : (xs.take (k * 2)).length = k * 2 := by rw [List.length_take]; omega
    have hvl : vs.toList.length = 2 := by simpa using hvs
    have hdl : (xs.drop (k * 2)).length = (n - k) * 2 := by rw [List.length_drop, hlx, Nat.sub_mul]
    have hD1 := hD.keep0 hk1
    clear hO1 hO hS hVS hTS hTk hD
    go_upto_region 11 with (refine wpList_copy_at _ rfl _ _ 52 52 rfl 64 i 2 Tryd.underlying52 hi hsz gs (k * 2) (n + 1 - k) (c1 - k) rfl (some ⟨vb, 0, none⟩) 1 1 rfl 64 cur1 hB1 1 1 (by omega) vs.toList hVS1 (by omega) ?_; intro w2 hB2 hk2)
    replace hD1 := hD1.keep hk2 (fun ad e _ => by cases e; simpa using hne)
    clear hB1 hVS1
    have m3 : (0 : Int) ≤ (k : Int) + 1 := by omega
    have m4 : (k : Int) + 1 ≤ (n : Int) + 1 := by omega
    have m5 : ¬ (c1 = k + 1) := by omega
    have m6 : ((k : Int) + 1).toNat = k + 1 := by omega
    have m7 : IntKind.i64.wrap ((k : Int) + 1) = (k : Int) + 1 := IntWalk.i64_in _ (by omega)
    have hz3 : (overlay cur1 (k * 2) vs.toList).size = c1 * 2 := by rw [overlay_size (by omega), hcs1]
    refine startU [] (by kernel_rfl) ?_
    have hSw : ∀ p ∈ ([] : List (Nat × (World → Prop))), p.2 w2.drew := by simp
    replace hB2 := hB2.drew
    replace hD1 := hD1.keep0 ((Keeps.refl [] w2).drew)
    refine takeU (i := 0) (v := ?_) rfl (by kernel_rfl) (fun _ _ _ h => h) (Or.inl ⟨by rfl, fun w0 hw0 => ?_⟩) (fun p hp _ => hSw p hp) ?_
    rotate_left
    · simp [Reads] at hw0
      go_simp
      try with_reducible rfl
    try go_simp
    refine takeU (i := 1) (v := ?_) rfl (by kernel_rfl) (fun _ _ _ h => h) (Or.inl ⟨by rfl, fun w0 hw0 => ?_⟩) (fun p hp _ => hSw p hp) ?_
    rotate_left
    · simp [Reads] at hw0
      go_simp
      try with_reducible rfl
    try go_simp
    refine takeU (i := 2) (v := ?_) rfl (by kernel_rfl) (fun _ _ _ h => h) (Or.inl ⟨by rfl, fun w0 hw0 => ?_⟩) (fun p hp _ => hSw p hp) ?_
    rotate_left
    · simp [Reads] at hw0
      go_simp
      try with_reducible rfl
    try go_simp
    refine takeU (i := 3) (v := ?_) rfl (by kernel_rfl) (fun _ _ _ h => h) (Or.inl ⟨by rfl, fun w0 hw0 => ?_⟩) (fun p hp _ => hSw p hp) ?_
    rotate_left
    · simp [Reads] at hw0
      go_simp
      try with_reducible rfl
    try go_simp
    refine takeU (i := 4) (v := ?_) rfl (by kernel_rfl) (fun _ _ _ h => h) (Or.inl ⟨by rfl, fun w0 hw0 => ?_⟩) (fun p hp _ => hSw p hp) ?_
    rotate_left
    · simp [Reads] at hw0
      go_simp
      try with_reducible rfl
    try go_simp
    refine takeU (i := 5) (v := ?_) rfl (by kernel_rfl) (fun _ _ _ h => h) (Or.inl ⟨by rfl, fun w0 hw0 => ?_⟩) (fun p hp _ => hSw p hp) ?_
    rotate_left
    · simp [Reads] at hw0
      go_simp
      try with_reducible rfl
    try go_simp
    refine takeU (i := 6) (v := ?_) rfl (by kernel_rfl) (fun _ _ _ h => h) (Or.inl ⟨by rfl, fun w0 hw0 => ?_⟩) (fun p hp _ => hSw p hp) ?_
    rotate_left
    · simp [Reads] at hw0
      go_simp
      try with_reducible rfl
    try go_simp
    refine takeU (i := 7) (v := ?_) rfl (by kernel_rfl) (fun _ _ _ h => h) (Or.inl ⟨by rfl, fun w0 hw0 => ?_⟩) (fun p hp _ => hSw p hp) ?_
    rotate_left
    · simp [Reads] at hw0
      go_simp
      try with_reducible rfl
    try go_simp
    refine oneU (i := 8) rfl (by kernel_rfl) (fun K hK => ?_)
    refine step_copy_at rfl _ _ 52 52 rfl 64 i 2 Tryd.underlying52 hi hsz gs ((k + 1) * 2) (n - k) (c1 - (k + 1)) rfl (some ⟨g, k * 2, none⟩) (n - k) (c - k) rfl 64 _ hB2 (n - k) (c - k) (by omega) (xs.drop (k * 2)) hD1 (by omega) ?_
    intro w3 hB3 hk3
    refine hK _ _ (fun p hp => by simp at hp) ?_
    clear hK K hD1
    refine doneU (by kernel_rfl) ?_
    have hkk : Keeps [] w w3 := hk1.step (hk2.drew.trans hk3) (fun x hx => by simp at hx; subst hx; exact .inr (Nat.le_of_eq hgs))
    have hfin := overlay2 (cur := cur1) (o := k * 2) (p := (k + 1) * 2) (q := (n + 1) * 2) (us := vs.toList) (vs := xs.drop (k * 2)) (by omega) (by omega) (by omega)
    have htk2 : cur1.toList.take (k * 2) = xs.take (k * 2) := by
      have := congrArg (List.take (k * 2)) htk1
      rw [List.take_take, Nat.min_eq_left (by omega), List.take_append_of_le_length (by omega), List.take_take, Nat.min_self] at this
      exact this
    rw [htk2] at hfin
    have hO3 := hB3.owns hNg1 (by rw [overlay_size (by omega), hz3]) hnc1 hcm1 hfin
    clear hB3 hB2 hfin
    go_wp2_with fail
    go_ret
    exact ⟨_, _, rfl, by simpa [List.append_assoc] using hO3, fun ad e => by cases e; exact .inr (Nat.le_refl _), hkk.of_nil⟩
  · have n3 : (n : Int) + 1 ≤ (c : Int) := by omega
    have n4 : ¬ ((c : Int) < (n : Int) + 1) := by omega
    have m2 : (k : Int) ≤ (n : Int) + 1 := by omega
    have m3 : (0 : Int) ≤ (k : Int) + 1 := by omega
    have m4 : (k : Int) + 1 ≤ (n : Int) + 1 := by omega
    have m5 : ¬ (c = k + 1) := by omega
    have m6 : ((k : Int) + 1).toNat = k + 1 := by omega
    have m7 : IntKind.i64.wrap ((k : Int) + 1) = (k : Int) + 1 := IntWalk.i64_in _ (by omega)
    have m8 : (0 : Int) ≤ (n : Int) + 1 := by omega
    have m9 : ((n : Int) + 1).toNat = n + 1 := by omega
    have hvl : vs.toList.length = 2 := by simpa using hvs
    have hdl : (xs.drop (k * 2)).length = (n - k) * 2 := by rw [List.length_drop, hlx, Nat.sub_mul]
    have hov : ∀ lb cb, (callFunc 54 #[.slice (some ⟨vb, 0, none⟩) 1 1, .slice (some ⟨g, (k + 1) * 2, none⟩) lb cb]).run Tryd.prog w = .ok (.value (.bool false)) w := fun lb cb => by
      rw [run_callFunc_extern Tryd.func54 (by kernel_rfl) (by kernel_rfl) (by kernel_rfl) (e := Extern.SlicesOverlaps.overlaps #[52, 52] #[4]) (by kernel_rfl),
        Lib.run_overlaps_apart w 52 4 64 Tryd.underlying52 2 (fun w => by simp [sizeOf, typeInfo, hi, hsz]) ⟨vb, 0, none⟩ ⟨g, (k + 1) * 2, none⟩ 1 1 lb cb (by simpa using hvb g (by simp)) _ _ _ _ hV.shape hB.shape (by omega) (hV.free _) (hV.free _)]
      rfl
    go_enter Tryd.func34, Tryd.ntmps34
    go_upto_region 15 with (simp only [hov])
    clear hov
    refine startU [] (by kernel_rfl) ?_
    have hSw : ∀ p ∈ ([] : List (Nat × (World → Prop))), p.2 w.drew := by simp
    replace hB := hB.drew
    replace hD := hD.keep0 ((Keeps.refl [] w).drew)
    replace hVS := hVS.keep0 ((Keeps.refl [] w).drew)
    refine takeU (i := 0) (v := ?_) rfl (by kernel_rfl) (fun _ _ _ h => h) (Or.inl ⟨by rfl, fun w0 hw0 => ?_⟩) (fun p hp _ => hSw p hp) ?_
    rotate_left
    · simp [Reads] at hw0
      go_simp
      try with_reducible rfl
    try go_simp
    refine takeU (i := 1) (v := ?_) rfl (by kernel_rfl) (fun _ _ _ h => h) (Or.inl ⟨by rfl, fun w0 hw0 => ?_⟩) (fun p hp _ => hSw p hp) ?_
    rotate_left
    · simp [Reads] at hw0
      go_simp
      try with_reducible rfl
    try go_simp
    refine takeU (i := 2) (v := ?_) rfl (by kernel_rfl) (fun _ _ _ h => h) (Or.inl ⟨by rfl, fun w0 hw0 => ?_⟩) (fun p hp _ => hSw p hp) ?_
    rotate_left
    · simp [Reads] at hw0
      go_simp
      try with_reducible rfl
    try go_simp
    refine takeU (i := 3) (v := ?_) rfl (by kernel_rfl) (fun _ _ _ h => h) (Or.inl ⟨by rfl, fun w0 hw0 => ?_⟩) (fun p hp _ => hSw p hp) ?_
    rotate_left
    · simp [Reads] at hw0
      go_simp
      try with_reducible rfl
    try go_simp
    refine takeU (i := 4) (v := ?_) rfl (by kernel_rfl) (fun _ _ _ h => h) (Or.inl ⟨by rfl, fun w0 hw0 => ?_⟩) (fun p hp _ => hSw p hp) ?_
    rotate_left
    · simp [Reads] at hw0
      go_simp
      try with_reducible rfl
    try go_simp
    refine takeU (i := 5) (v := ?_) rfl (by kernel_rfl) (fun _ _ _ h => h) (Or.inl ⟨by rfl, fun w0 hw0 => ?_⟩) (fun p hp _ => hSw p hp) ?_
    rotate_left
    · simp [Reads] at hw0
      go_simp
      try with_reducible rfl
    try go_simp
    refine takeU (i := 6) (v := ?_) rfl (by kernel_rfl) (fun _ _ _ h => h) (Or.inl ⟨by rfl, fun w0 hw0 => ?_⟩) (fun p hp _ => hSw p hp) ?_
    rotate_left
    · simp [Reads] at hw0
      go_simp
      try with_reducible rfl
    try go_simp
    refine takeU (i := 7) (v := ?_) rfl (by kernel_rfl) (fun _ _ _ h => h) (Or.inl ⟨by rfl, fun w0 hw0 => ?_⟩) (fun p hp _ => hSw p hp) ?_
    rotate_left
    · simp [Reads] at hw0
      go_simp
      try with_reducible rfl
    try go_simp
    refine oneU (i := 8) rfl (by kernel_rfl) (fun K hK => ?_)
    refine step_copy_at rfl _ _ 52 52 rfl 64 i 2 Tryd.underlying52 hi hsz g ((k + 1) * 2) (n - k) (c - (k + 1)) rfl (some ⟨g, k * 2, none⟩) (n + 1 - k) (c - k) rfl 64 _ hB (n - k) (c - k) (by omega) (xs.drop (k * 2)) hD (by omega) ?_
    intro w2 hB2 hk2
    refine hK _ _ (fun p hp => by simp at hp) ?_
    clear hK K hD
    refine doneU (by kernel_rfl) ?_
    replace hVS := hVS.keep hk2 (fun ad e _ => by cases e; simpa using hvb g (by simp))
    have hz3 : (overlay cur ((k + 1) * 2) (xs.drop (k * 2))).size = c * 2 := by rw [overlay_size (by omega), hcs]
    go_upto_region 17 with (refine wpList_copy_at _ rfl _ _ 52 52 rfl 64 i 2 Tryd.underlying52 hi hsz g (k * 2) (n + 1 - k) (c - k) rfl (some ⟨vb, 0, none⟩) 1 1 rfl 64 _ hB2 1 1 (by omega) vs.toList hVS (by omega) ?_; intro w3 hB3 hk3)
    have hkk : Keeps [g] w w3 := ((Keeps.refl [g] w).drew.trans hk2).trans hk3
    have hfin := overlay2' (cur := cur) (o := k * 2) (p := (k + 1) * 2) (q := (n + 1) * 2) (us := vs.toList) (vs := xs.drop (k * 2)) (by omega) (by omega) (by omega)
    have htk2 : cur.toList.take (k * 2) = xs.take (k * 2) := by
      have := congrArg (List.take (k * 2)) htk
      rw [List.take_take, Nat.min_eq_left (by omega)] at this
      exact this
    rw [htk2] at hfin
    have hO3 := hB3.owns hNg (by rw [overlay_size (by omega), hz3]) (by omega) hcm hfin
    clear hB3 hB2 hB hfin
    go_wp2_with fail
    go_ret
    exact ⟨_, _, rfl, by simpa [List.append_assoc] using hO3, fun ad e => by cases e; exact .inl (by simp), by simpa using hkk⟩
end Go.Proofs.YtknnhnpcgefchaaDoor
