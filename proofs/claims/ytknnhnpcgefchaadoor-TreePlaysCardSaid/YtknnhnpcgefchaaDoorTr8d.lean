/- Generic slices: Replace, part d. -/
import Derived.Test.YtknnhnpcgefchaaDoorTr3

namespace Go.Proofs.YtknnhnpcgefchaaDoor
open Go.RowKit Go.Lib

set_option maxRecDepth 100000 in
set_option maxHeartbeats 8000000 in
/-- Replace of some by others -/
theorem repN_d (N : Nat) (ao : Option Addr) (n c k j m vb : Nat) (xs : List Value) (vs : Array Value) (w : World) (hO : w.ownsRow N 51 1 (.slice ao n c) n xs) (h1 : ∀ u ∈ xs, u.oneCell' = true) (hkj : k < j) (hj : j ≤ n) (hn : n ≤ 1000000) (hm : 0 < m) (hm2 : m ≤ 1000)
    (hV : Blk w vb 51 vs) (hvs : vs.size = m) (hv1 : ∀ u ∈ vs.toList, u.oneCell' = true) (hvb : ∀ x ∈ blks ao, vb ≠ x) (_hN : N ≤ w.heap.size) (hjn : ¬ j = n) (hg0 : ¬ (c < k + m + (n - j))) (hp0 : ¬ (k + m ≤ j)) :
    Calls Tryd.prog 36 #[.slice ao n c, .int .i64 (k : Int), .int .i64 (j : Int), .slice (some ⟨vb, 0, none⟩) m m] w fun e w' => ∃ ao' c', e = .returned (.slice ao' (k + m + (n - j)) c') ∧ w'.ownsRow N 51 1 (.slice ao' (k + m + (n - j)) c') (k + m + (n - j)) (xs.take k ++ vs.toList ++ xs.drop j) ∧
      (∀ ad, ao' = some ad → ad.block ∈ blks ao ∨ w.heap.size ≤ ad.block) ∧ Keeps (blks ao) w w' := by
  obtain ⟨i, z, hi, hz, hsz, hby, hzc, hz1⟩ := infoTN
  have hS := own_read hO h1
  have hcap := hS.cap
  have hmx := hS.most
  unfold maxLen at hmx
  have hVS : Sl w 1 (some ⟨vb, 0, none⟩) m m vs.toList := Sl.of_blk (n := m) hV (by rw [Nat.mul_one]; exact hvs) (by unfold maxLen; omega) hv1
  have hlx := hS.len
  simp only [Nat.mul_one] at hlx
  obtain ⟨g, cur, hao, hNg, hB, hcs, hnc, hcm, htk⟩ := ownsRow_blk hO (by omega) (by decide)
  subst hao
  simp only [Nat.mul_one] at hcs htk
  have hvb' : vb ≠ g := by simpa using hvb g (by simp)
  have hvl : vs.toList.length = m := by simpa using hvs
  have hD : Sl w 1 (some ⟨g, j, none⟩) (n - j) (c - j) (xs.drop j) ∨ c = j := by
    by_cases hcj : c = j
    · exact .inr hcj
    · have := hS.drop (k := j) hj
      rw [if_neg hcj] at this
      simp only [Nat.mul_one] at this
      exact .inl (by simpa [addr_add] using this)
  have hTk := own_take hO (k := k) (by omega)
  have hTS := hS.take (k := k) (c' := c) (by omega) (by omega) (Nat.le_refl _)
  simp only [Nat.mul_one] at hTk hTS
  have hdl : (xs.drop j).length = n - j := by rw [List.length_drop, hlx]
  have htk2 : cur.toList.take k = xs.take k := by
    have := congrArg (List.take k) htk
    rw [List.take_take, Nat.min_eq_left (by omega)] at this
    exact this
  have n1 : (k : Int) ≤ (j : Int) := by omega
  have n2 : (j : Int) ≤ (c : Int) := by omega
  have n3 : ((k : Int) == (j : Int)) = false := by simp; omega
  have n4 : (0 : Int) ≤ (k : Int) := by omega
  have n5 : (k : Int) ≤ (c : Int) := by omega
  have n6 : ¬ (c = k) := by omega
  have n7 : ¬ ((k : Int) = (j : Int)) := by omega
  have hD : Sl w 1 (some ⟨g, j, none⟩) (n - j) (c - j) (xs.drop j) := hD.resolve_right (by omega)
  have n8 : ((j : Int) == (n : Int)) = false := by simp; omega
  have n9 : ¬ ((j : Int) = (n : Int)) := by omega
  have r1 : (j : Int) ≤ (n : Int) := by omega
  have r2 : (0 : Int) ≤ (j : Int) := by omega
  have r3 : ¬ (c = j) := by omega
  obtain ⟨p, hp⟩ : ∃ p, p = k + m := ⟨_, rfl⟩
  obtain ⟨t, ht⟩ : ∃ t, t = k + m + (n - j) := ⟨_, rfl⟩
  rw [← ht]
  have HP := Lib.hid hp
  have HT := Lib.hid ht
  have s1 : IntKind.i64.wrap ((k : Int) + (m : Int)) = (p : Int) := by rw [IntWalk.i64_in _ (by omega)]; omega
  have s1' : (k : Int) + (m : Int) = (p : Int) := by omega
  have s1p : IntKind.i64.wrap (p : Int) = (p : Int) := IntWalk.i64_in _ (by omega)
  have s2p : IntKind.i64.wrap (t : Int) = (t : Int) := IntWalk.i64_in _ (by omega)
  have s2 : IntKind.i64.wrap ((p : Int) + ((n - j : Nat) : Int)) = (t : Int) := by rw [IntWalk.i64_in _ (by omega)]; omega
  have s3 : (p : Int) + ((n - j : Nat) : Int) = (t : Int) := by omega
  have s4 : (0 : Int) ≤ (p : Int) := by omega
  have s5 : (p : Int) ≤ (t : Int) := by omega
  have s6 : t - p = n - j := by omega
  have s7 : (0 : Int) ≤ (t : Int) := by omega
  have s8 : (k : Int) ≤ (t : Int) := by omega
  have hpk : p = k + vs.toList.length := by omega
  have htp : t = p + (xs.drop j).length := by omega
  have hkt : k < t := by omega
  have hpt : p < t := by omega
  have hkp : k < p := by omega
  have htn : p ≤ j → t ≤ n := by omega
  have htm : t ≤ 2000000 := by omega
  have hjn2 : j < n := by omega
  have T1 := Lib.hid (show min m (t - k) = m by omega)
  have T3 := Lib.hid (show min (n - j) (t - p) = n - j by omega)
  have HPK := Lib.hid hpk
  have HTP := Lib.hid htp
  have hg : ¬ (c < t) := by omega
  have hpj : j < p := by omega
  clear hg0 hp0
  clear hp ht hpk htp
  have m1 : ¬ ((c : Int) < (t : Int)) := by omega
  have m1' : (t : Int) ≤ (c : Int) := by omega
  have m5 : ¬ (c = p) := by omega
  have hz1' : (overlay cur k vs.toList).size = c := by rw [overlay_size (by have := HPK.out; have := HTP.out; have := HP.out; omega), hcs]
  have o1 : ¬ ((p : Int) ≤ (j : Int)) := by omega
  have hov : ∀ nq, ∀ lb cb, (callFunc 57 #[.slice (some ⟨g, p, none⟩) lb cb, .slice (some ⟨vb, 0, none⟩) m m]).run Tryd.prog (w.drewN nq) = .ok (.value (.bool false)) (w.drewN nq) := fun nq lb cb => by
    rw [run_callFunc_extern Tryd.func57 (by kernel_rfl) (by kernel_rfl) (by kernel_rfl) (e := Extern.SlicesOverlaps.overlaps #[53, 53] #[4]) (by kernel_rfl),
      Lib.run_overlaps_apart (w.drewN nq) 53 4 51 Tryd.underlying53 1 (fun w => by simp [sizeOf, typeInfo, hi, hsz]) ⟨g, p, none⟩ ⟨vb, 0, none⟩ lb cb m m (Ne.symm hvb') _ _ _ _ (hB.drewN nq).shape (hV.drewN nq).shape (by have := HPK.out; have := HTP.out; have := HP.out; omega) ((hB.drewN nq).free _) ((hB.drewN nq).free _)]
    rfl
  go_enter Tryd.func36, Tryd.ntmps36
  go_upto_region 9 with (fail)
  go_quiet (fail)
  have hkq := (Keeps.refl [] w).drewN nq
  replace hVS := hVS.keep0 hkq
  replace hD := hD.keep0 hkq
  replace hB := hB.drewN nq
  replace hov := hov nq
  clear hTS hTk hO hS
  generalize hwq : w.drewN nq = w1 at *
  clear hwq
  have C4 := Lib.hid (show p + (xs.drop j).length ≤ cur.size by have := HPK.out; have := HTP.out; have := HP.out; omega)
  go_upto_region 22 with (simp only [hov])
  clear hov
  refine startU [] (by kernel_rfl) ?_
  have hSw : ∀ p ∈ ([] : List (Nat × (World → Prop))), p.2 w1.drew := by simp
  replace hB := hB.drew
  replace hD := hD.keep0 ((Keeps.refl [] w1).drew)
  replace hVS := hVS.keep0 ((Keeps.refl [] w1).drew)
  refine takeU (i := 0) (v := ?_) rfl (by kernel_rfl) (fun _ _ _ h => h) (Or.inl ⟨by rfl, fun w0 hw0 => ?_⟩) (fun p hp _ => hSw p hp) ?_
  rotate_left
  · simp [Reads] at hw0
    go_simp
    try with_reducible rfl
  try go_simp
  refine takeU (i := 1) (v := ?_) rfl (by kernel_rfl) (fun _ _ _ h => h) (Or.inl ⟨by rfl, fun w0 hw0 => ?_⟩) (fun p hp _ => hSw p hp) ?_
  rotate_left
  · simp [Reads] at hw0
    go_simp
    try with_reducible rfl
  try go_simp
  refine takeU (i := 2) (v := ?_) rfl (by kernel_rfl) (fun _ _ _ h => h) (Or.inl ⟨by rfl, fun w0 hw0 => ?_⟩) (fun p hp _ => hSw p hp) ?_
  rotate_left
  · simp [Reads] at hw0
    go_simp
    try with_reducible rfl
  try go_simp
  refine takeU (i := 3) (v := ?_) rfl (by kernel_rfl) (fun _ _ _ h => h) (Or.inl ⟨by rfl, fun w0 hw0 => ?_⟩) (fun p hp _ => hSw p hp) ?_
  rotate_left
  · simp [Reads] at hw0
    go_simp
    try with_reducible rfl
  try go_simp
  refine takeU (i := 4) (v := ?_) rfl (by kernel_rfl) (fun _ _ _ h => h) (Or.inl ⟨by rfl, fun w0 hw0 => ?_⟩) (fun p hp _ => hSw p hp) ?_
  rotate_left
  · simp [Reads] at hw0
    go_simp
    try with_reducible rfl
  try go_simp
  refine takeU (i := 5) (v := ?_) rfl (by kernel_rfl) (fun _ _ _ h => h) (Or.inl ⟨by rfl, fun w0 hw0 => ?_⟩) (fun p hp _ => hSw p hp) ?_
  rotate_left
  · simp [Reads] at hw0
    go_simp
    try with_reducible rfl
  try go_simp
  refine takeU (i := 6) (v := ?_) rfl (by kernel_rfl) (fun _ _ _ h => h) (Or.inl ⟨by rfl, fun w0 hw0 => ?_⟩) (fun p hp _ => hSw p hp) ?_
  rotate_left
  · simp [Reads] at hw0
    go_simp
    try with_reducible rfl
  try go_simp
  refine takeU (i := 7) (v := ?_) rfl (by kernel_rfl) (fun _ _ _ h => h) (Or.inl ⟨by rfl, fun w0 hw0 => ?_⟩) (fun p hp _ => hSw p hp) ?_
  rotate_left
  · simp [Reads] at hw0
    go_simp
    try with_reducible rfl
  try go_simp
  refine takeU (i := 8) (v := ?_) rfl (by kernel_rfl) (fun _ _ _ h => h) (Or.inl ⟨by rfl, fun w0 hw0 => ?_⟩) (fun p hp _ => hSw p hp) ?_
  rotate_left
  · simp [Reads] at hw0
    go_simp
    try with_reducible rfl
  try go_simp
  refine oneU (i := 9) rfl (by kernel_rfl) (fun K hK => ?_)
  refine step_copy_at rfl _ _ 53 53 rfl 51 i 1 Tryd.underlying53 hi hsz g p (t - p) (c - p) (by first | rfl | (rw [s6]; rfl)) (some ⟨g, j, none⟩) (n - j) (c - j) rfl 51 _ hB (n - j) (c - j) T3.out (xs.drop j) hD C4.out ?_
  intro w2 hB2 hk2
  refine hK _ _ (fun p hp => by simp at hp) ?_
  clear hK K hD
  refine doneU (by kernel_rfl) ?_
  replace hVS := hVS.keep hk2 (fun ad e _ => by cases e; simpa using hvb')
  have hz3 : (overlay cur p (xs.drop j)).size = c := by rw [overlay_size (by have := HPK.out; have := HTP.out; have := HP.out; omega), hcs]
  have C5 := Lib.hid (show k + vs.toList.length ≤ (overlay cur p (xs.drop j)).size by rw [hz3]; have := HPK.out; have := HTP.out; have := HP.out; omega)
  go_upto_region 24 with (refine wpList_copy_at _ rfl _ _ 53 53 rfl 51 i 1 Tryd.underlying53 hi hsz g k (t - k) (c - k) rfl (some ⟨vb, 0, none⟩) m m rfl 51 _ hB2 m m T1.out vs.toList hVS C5.out ?_; intro w3 hB3 hk3)
  have hkk : Keeps [g] w w3 := (hkq.drew.of_nil.trans hk2).trans hk3
  have hfin := overlay2' (cur := cur) (o := k) (p := p) (q := t) (us := vs.toList) (vs := xs.drop j) (by have := HPK.out; have := HTP.out; have := HP.out; omega) (by have := HPK.out; have := HTP.out; have := HP.out; omega) (by have := HPK.out; have := HTP.out; have := HP.out; omega)
  rw [htk2] at hfin
  have hO3 := hB3.owns (sz := 1) (n := t) (c := c) (xs := xs.take k ++ vs.toList ++ xs.drop j) hNg (by rw [overlay_size (by have := HPK.out; have := HTP.out; have := HP.out; omega), hz3]; try (have := HPK.out; have := HTP.out; have := HP.out; omega)) (by have := HPK.out; have := HTP.out; have := HP.out; omega) hcm (by rw [Nat.mul_one]; exact hfin)
  clear hB3 hB2 hB hfin
  go_wp2_with fail
  go_ret
  exact ⟨_, _, rfl, by simpa [List.append_assoc] using hO3, fun ad e => by cases e; exact .inl (by simp), by simpa using hkk⟩
end Go.Proofs.YtknnhnpcgefchaaDoor
