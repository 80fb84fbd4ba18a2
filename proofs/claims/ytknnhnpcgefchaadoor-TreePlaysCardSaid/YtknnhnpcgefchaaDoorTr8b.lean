/- Generic slices: Replace, part b. -/
import Derived.Test.YtknnhnpcgefchaaDoorTr3

namespace Go.Proofs.YtknnhnpcgefchaaDoor
open Go.RowKit Go.Lib

set_option maxRecDepth 100000 in
set_option maxHeartbeats 8000000 in
/-- Replace of some by others -/
theorem repN_b (N : Nat) (ao : Option Addr) (n c k j m vb : Nat) (xs : List Value) (vs : Array Value) (w : World) (hO : w.ownsRow N 51 1 (.slice ao n c) n xs) (h1 : ∀ u ∈ xs, u.oneCell' = true) (hkj : k < j) (hj : j ≤ n) (hn : n ≤ 1000000) (hm : 0 < m) (hm2 : m ≤ 1000)
    (hV : Blk w vb 51 vs) (hvs : vs.size = m) (hv1 : ∀ u ∈ vs.toList, u.oneCell' = true) (hvb : ∀ x ∈ blks ao, vb ≠ x) (hN : N ≤ w.heap.size) (hjn : ¬ j = n) (hg0 : c < k + m + (n - j)) :
    Calls Tryd.prog 36 #[.slice ao n c, .int .i64 (k : Int), .int .i64 (j : Int), .slice (some ⟨vb, 0, none⟩) m m] w fun e w' => ∃ ao' c', e = .returned (.slice ao' (k + m + (n - j)) c') ∧ w'.ownsRow N 51 1 (.slice ao' (k + m + (n - j)) c') (k + m + (n - j)) (xs.take k ++ vs.toList ++ xs.drop j) ∧
      (∀ ad, ao' = some ad → ad.block ∈ blks ao ∨ w.heap.size ≤ ad.block) ∧ Keeps (blks ao) w w' := by
  obtain ⟨i, z, hi, hz, hsz, hby, hzc, hz1⟩ := infoTN
  have hS := own_read hO h1
  have hcap := hS.cap
  have hmx := hS.most
  unfold maxLen at hmx
  have hVS : Sl w 1 (some ⟨vb, 0, none⟩) m m vs.toList := Sl.of_blk (n := m) hV (by rw [Nat.mul_one]; exact hvs) (by unfold maxLen; omega) hv1
  have hlx := hS.len
  simp only [Nat.mul_one] at hlx
  obtain ⟨g, cur, hao, hNg, hB, hcs, hnc, hcm, htk⟩ := ownsRow_blk hO (by omega) (by decide)
  subst hao
  simp only [Nat.mul_one] at hcs htk
  have hvb' : vb ≠ g := by simpa using hvb g (by simp)
  have hvl : vs.toList.length = m := by simpa using hvs
  have hD : Sl w 1 (some ⟨g, j, none⟩) (n - j) (c - j) (xs.drop j) ∨ c = j := by
    by_cases hcj : c = j
    · exact .inr hcj
    · have := hS.drop (k := j) hj
      rw [if_neg hcj] at this
      simp only [Nat.mul_one] at this
      exact .inl (by simpa [addr_add] using this)
  have hTk := own_take hO (k := k) (by omega)
  have hTS := hS.take (k := k) (c' := c) (by omega) (by omega) (Nat.le_refl _)
  simp only [Nat.mul_one] at hTk hTS
  have hdl : (xs.drop j).length = n - j := by rw [List.length_drop, hlx]
  have htk2 : cur.toList.take k = xs.take k := by
    have := congrArg (List.take k) htk
    rw [List.take_take, Nat.min_eq_left (by omega)] at this
    exact this
  have n1 : (k : Int) ≤ (j : Int) := by omega
  have n2 : (j : Int) ≤ (c : Int) := by omega
  have n3 : ((k : Int) == (j : Int)) = false := by simp; omega
  have n4 : (0 : Int) ≤ (k : Int) := by omega
  have n5 : (k : Int) ≤ (c : Int) := by omega
  have n6 : ¬ (c = k) := by omega
  have n7 : ¬ ((k : Int) = (j : Int)) := by omega
  have hD : Sl w 1 (some ⟨g, j, none⟩) (n - j) (c - j) (xs.drop j) := hD.resolve_right (by omega)
  have n8 : ((j : Int) == (n : Int)) = false := by simp; omega
  have n9 : ¬ ((j : Int) = (n : Int)) := by omega
  have r1 : (j : Int) ≤ (n : Int) := by omega
  have r2 : (0 : Int) ≤ (j : Int) := by omega
  have r3 : ¬ (c = j) := by omega
  obtain ⟨p, hp⟩ : ∃ p, p = k + m := ⟨_, rfl⟩
  obtain ⟨t, ht⟩ : ∃ t, t = k + m + (n - j) := ⟨_, rfl⟩
  rw [← ht]
  have HP := Lib.hid hp
  have HT := Lib.hid ht
  have s1 : IntKind.i64.wrap ((k : Int) + (m : Int)) = (p : Int) := by rw [IntWalk.i64_in _ (by omega)]; omega
  have s1' : (k : Int) + (m : Int) = (p : Int) := by omega
  have s1p : IntKind.i64.wrap (p : Int) = (p : Int) := IntWalk.i64_in _ (by omega)
  have s2p : IntKind.i64.wrap (t : Int) = (t : Int) := IntWalk.i64_in _ (by omega)
  have s2 : IntKind.i64.wrap ((p : Int) + ((n - j : Nat) : Int)) = (t : Int) := by rw [IntWalk.i64_in _ (by omega)]; omega
  have s3 : (p : Int) + ((n - j : Nat) : Int) = (t : Int) := by omega
  have s4 : (0 : Int) ≤ (p : Int) := by omega
  have s5 : (p : Int) ≤ (t : Int) := by omega
  have s6 : t - p = n - j := by omega
  have s7 : (0 : Int) ≤ (t : Int) := by omega
  have s8 : (k : Int) ≤ (t : Int) := by omega
  have hpk : p = k + vs.toList.length := by omega
  have htp : t = p + (xs.drop j).length := by omega
  have hkt : k < t := by omega
  have hpt : p < t := by omega
  have hkp : k < p := by omega
  have htn : p ≤ j → t ≤ n := by omega
  have htm : t ≤ 2000000 := by omega
  have hjn2 : j < n := by omega
  have T1 := Lib.hid (show min m (t - k) = m by omega)
  have T3 := Lib.hid (show min (n - j) (t - p) = n - j by omega)
  have HPK := Lib.hid hpk
  have HTP := Lib.hid htp
  have hg : c < t := by omega
  clear hg0
  clear hp ht hpk htp
  have m1 : (c : Int) < (t : Int) := by omega
  have m2 : IntKind.i64.wrap ((t : Int) - (k : Int)) = ((t - k : Nat) : Int) := by rw [IntWalk.i64_in _ (by have := HPK.out; have := HTP.out; have := HP.out; omega)]; omega
  have m3 : (t : Int) - (k : Int) = ((t - k : Nat) : Int) := by omega
  go_enter Tryd.func36, Tryd.ntmps36
  go_upto_region 9 with (fail)
  go_quiet (fail)
  have hkq := (Keeps.refl [] w).drewN nq
  replace hD := hD.keep0 hkq
  replace hVS := hVS.keep0 hkq
  replace hTS := hTS.keep0 hkq
  replace hB := hB.drewN nq
  go_upto_region 12 with (at_builtin; refine wpList_append_zeros _ rfl _ _ 53 3 rfl N 51 i z 1 8 .i64 Tryd.underlying53 Tryd.underlying3 hi hz hsz hby hzc (by decide) _ k c rfl _ hTS .i64 (t - k) rfl (by have := HPK.out; have := HTP.out; have := HP.out; omega) (by have := HPK.out; have := HTP.out; have := HP.out; omega) (by unfold maxLen; omega) (by have := HPK.out; have := HTP.out; have := HP.out; omega) (Nat.le_trans hN hkq.size) ?_; intro c1 w1 zs hzl hO1 hk1)
  have e1 : k + (t - k) = t := by omega
  rw [e1] at hO1 ⊢
  obtain ⟨g1, cur1, hg1, hNg1, hB1, hcs1, hnc1, hcm1, htk1⟩ := ownsRow_blk hO1 (by have := HPK.out; have := HTP.out; have := HP.out; omega) (by decide)
  simp only [Option.some.injEq, Addr.mk.injEq, and_true] at hg1
  simp only [Nat.mul_one] at hcs1 htk1 hzl
  replace hg1 : w.heap.size = g1 := hg1
  have hgw : w.heap.size ≤ g1 := Nat.le_of_eq hg1
  have hne : g ≠ g1 := by have h1 := hB.lt; replace h1 : g < w.heap.size := h1; omega
  have hvg : vb ≠ g1 := by have := hV.lt; omega
  have hkw : Keeps [] w w1 := hkq.trans hk1
  generalize hgs : w.heap.size = gs at *
  subst hg1
  have hVS1 := hVS.keep0 hk1
  have hD1 := hD.keep0 hk1
  have m4 : ¬ (c1 = k) := by omega
  have m5 : ¬ (c1 = p) := by omega
  clear hO1 hO hS hVS hTS hTk hD
  have C5a := Lib.hid (show k + vs.toList.length ≤ cur1.size by have := HPK.out; have := HTP.out; have := HP.out; omega)
  go_upto_region 13 with (refine wpList_copy_at _ rfl _ _ 53 53 rfl 51 i 1 Tryd.underlying53 hi hsz gs k (t - k) (c1 - k) rfl (some ⟨vb, 0, none⟩) m m rfl 51 cur1 hB1 m m T1.out vs.toList hVS1 C5a.out ?_; intro w2 hB2 hk2)
  replace hD1 := hD1.keep hk2 (fun ad e _ => by cases e; simpa using hne)
  clear hB1 hVS1
  have hz3 : (overlay cur1 k vs.toList).size = c1 := by rw [overlay_size (by have := HPK.out; have := HTP.out; have := HP.out; omega), hcs1]
  refine startU [] (by kernel_rfl) ?_
  have hSw : ∀ p ∈ ([] : List (Nat × (World → Prop))), p.2 w2.drew := by simp
  replace hB2 := hB2.drew
  replace hD1 := hD1.keep0 ((Keeps.refl [] w2).drew)
  refine takeU (i := 0) (v := ?_) rfl (by kernel_rfl) (fun _ _ _ h => h) (Or.inl ⟨by rfl, fun w0 hw0 => ?_⟩) (fun p hp _ => hSw p hp) ?_
  rotate_left
  · simp [Reads] at hw0
    go_simp
    try with_reducible rfl
  try go_simp
  refine takeU (i := 1) (v := ?_) rfl (by kernel_rfl) (fun _ _ _ h => h) (Or.inl ⟨by rfl, fun w0 hw0 => ?_⟩) (fun p hp _ => hSw p hp) ?_
  rotate_left
  · simp [Reads] at hw0
    go_simp
    try with_reducible rfl
  try go_simp
  refine takeU (i := 2) (v := ?_) rfl (by kernel_rfl) (fun _ _ _ h => h) (Or.inl ⟨by rfl, fun w0 hw0 => ?_⟩) (fun p hp _ => hSw p hp) ?_
  rotate_left
  · simp [Reads] at hw0
    go_simp
    try with_reducible rfl
  try go_simp
  refine takeU (i := 3) (v := ?_) rfl (by kernel_rfl) (fun _ _ _ h => h) (Or.inl ⟨by rfl, fun w0 hw0 => ?_⟩) (fun p hp _ => hSw p hp) ?_
  rotate_left
  · simp [Reads] at hw0
    go_simp
    try with_reducible rfl
  try go_simp
  refine takeU (i := 4) (v := ?_) rfl (by kernel_rfl) (fun _ _ _ h => h) (Or.inl ⟨by rfl, fun w0 hw0 => ?_⟩) (fun p hp _ => hSw p hp) ?_
  rotate_left
  · simp [Reads] at hw0
    go_simp
    try with_reducible rfl
  try go_simp
  refine takeU (i := 5) (v := ?_) rfl (by kernel_rfl) (fun _ _ _ h => h) (Or.inl ⟨by rfl, fun w0 hw0 => ?_⟩) (fun p hp _ => hSw p hp) ?_
  rotate_left
  · simp [Reads] at hw0
    go_simp
    try with_reducible rfl
  try go_simp
  refine takeU (i := 6) (v := ?_) rfl (by kernel_rfl) (fun _ _ _ h => h) (Or.inl ⟨by rfl, fun w0 hw0 => ?_⟩) (fun p hp _ => hSw p hp) ?_
  rotate_left
  · simp [Reads] at hw0
    go_simp
    try with_reducible rfl
  try go_simp
  refine takeU (i := 7) (v := ?_) rfl (by kernel_rfl) (fun _ _ _ h => h) (Or.inl ⟨by rfl, fun w0 hw0 => ?_⟩) (fun p hp _ => hSw p hp) ?_
  rotate_left
  · simp [Reads] at hw0
    go_simp
    try with_reducible rfl
  try go_simp
  refine takeU (i := 8) (v := ?_) rfl (by kernel_rfl) (fun _ _ _ h => h) (Or.inl ⟨by rfl, fun w0 hw0 => ?_⟩) (fun p hp _ => hSw p hp) ?_
  rotate_left
  · simp [Reads] at hw0
    go_simp
    try with_reducible rfl
  try go_simp
  refine oneU (i := 9) rfl (by kernel_rfl) (fun K hK => ?_)
  have C4a := Lib.hid (show p + (xs.drop j).length ≤ (overlay cur1 k vs.toList).size by rw [hz3]; have := HPK.out; have := HTP.out; have := HP.out; omega)
  refine step_copy_at rfl _ _ 53 53 rfl 51 i 1 Tryd.underlying53 hi hsz gs p (t - p) (c1 - p) (by first | rfl | (rw [s6]; rfl)) (some ⟨g, j, none⟩) (n - j) (c - j) rfl 51 _ hB2 (n - j) (c - j) T3.out (xs.drop j) hD1 C4a.out ?_
  intro w3 hB3 hk3
  refine hK _ _ (fun p hp => by simp at hp) ?_
  clear hK K hD1
  refine doneU (by kernel_rfl) ?_
  have hkk : Keeps [] w w3 := hkw.step (hk2.drew.trans hk3) (fun x hx => by simp at hx; subst hx; exact .inr (Nat.le_of_eq hgs))
  have hfin := overlay2 (cur := cur1) (o := k) (p := p) (q := t) (us := vs.toList) (vs := xs.drop j) (by have := HPK.out; have := HTP.out; have := HP.out; omega) (by have := HPK.out; have := HTP.out; have := HP.out; omega) (by have := HPK.out; have := HTP.out; have := HP.out; omega)
  have htk3 : cur1.toList.take k = xs.take k := by
    have := congrArg (List.take k) htk1
    rw [List.take_take, Nat.min_eq_left (by have := HPK.out; have := HTP.out; have := HP.out; omega), List.take_append_of_le_length (by rw [List.length_take]; omega), List.take_take, Nat.min_self] at this
    exact this
  rw [htk3] at hfin
  have hO3 := hB3.owns (sz := 1) (n := t) (c := c1) (xs := xs.take k ++ vs.toList ++ xs.drop j) hNg1 (by rw [overlay_size (by have := HPK.out; have := HTP.out; have := HP.out; omega), hz3]; try omega) hnc1 hcm1 (by rw [Nat.mul_one]; exact hfin)
  clear hB3 hB2 hfin
  go_wp2_with fail
  go_ret
  exact ⟨_, _, rfl, by simpa [List.append_assoc] using hO3, fun ad e => by cases e; exact .inr (Nat.le_of_eq hgs), hkk.of_nil⟩
end Go.Proofs.YtknnhnpcgefchaaDoor
