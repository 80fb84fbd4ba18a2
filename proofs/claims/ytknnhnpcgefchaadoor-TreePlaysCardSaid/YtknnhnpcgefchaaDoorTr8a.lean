/- Generic slices: Replace, part a. -/
import Derived.Test.YtknnhnpcgefchaaDoorTr3

namespace Go.Proofs.YtknnhnpcgefchaaDoor
open Go.RowKit Go.Lib

set_option maxRecDepth 100000 in
set_option maxHeartbeats 8000000 in
/-- Replace of some by others -/
theorem repN_a (N : Nat) (ao : Option Addr) (n c k j m vb : Nat) (xs : List Value) (vs : Array Value) (w : World) (hO : w.ownsRow N 51 1 (.slice ao n c) n xs) (h1 : ∀ u ∈ xs, u.oneCell' = true) (hkj : k < j) (hj : j ≤ n) (hn : n ≤ 1000000) (hm : 0 < m) (hm2 : m ≤ 1000)
    (hV : Blk w vb 51 vs) (hvs : vs.size = m) (hv1 : ∀ u ∈ vs.toList, u.oneCell' = true) (hvb : ∀ x ∈ blks ao, vb ≠ x) (hN : N ≤ w.heap.size) (hjn : j = n) :
    Calls Tryd.prog 36 #[.slice ao n c, .int .i64 (k : Int), .int .i64 (j : Int), .slice (some ⟨vb, 0, none⟩) m m] w fun e w' => ∃ ao' c', e = .returned (.slice ao' (k + m + (n - j)) c') ∧ w'.ownsRow N 51 1 (.slice ao' (k + m + (n - j)) c') (k + m + (n - j)) (xs.take k ++ vs.toList ++ xs.drop j) ∧
      (∀ ad, ao' = some ad → ad.block ∈ blks ao ∨ w.heap.size ≤ ad.block) ∧ Keeps (blks ao) w w' := by
  obtain ⟨i, z, hi, hz, hsz, hby, hzc, hz1⟩ := infoTN
  have hS := own_read hO h1
  have hcap := hS.cap
  have hmx := hS.most
  unfold maxLen at hmx
  have hVS : Sl w 1 (some ⟨vb, 0, none⟩) m m vs.toList := Sl.of_blk (n := m) hV (by rw [Nat.mul_one]; exact hvs) (by unfold maxLen; omega) hv1
  have hlx := hS.len
  simp only [Nat.mul_one] at hlx
  obtain ⟨g, cur, hao, hNg, hB, hcs, hnc, hcm, htk⟩ := ownsRow_blk hO (by omega) (by decide)
  subst hao
  simp only [Nat.mul_one] at hcs htk
  have hvb' : vb ≠ g := by simpa using hvb g (by simp)
  have hvl : vs.toList.length = m := by simpa using hvs
  have hD : Sl w 1 (some ⟨g, j, none⟩) (n - j) (c - j) (xs.drop j) ∨ c = j := by
    by_cases hcj : c = j
    · exact .inr hcj
    · have := hS.drop (k := j) hj
      rw [if_neg hcj] at this
      simp only [Nat.mul_one] at this
      exact .inl (by simpa [addr_add] using this)
  have hTk := own_take hO (k := k) (by omega)
  have hTS := hS.take (k := k) (c' := c) (by omega) (by omega) (Nat.le_refl _)
  simp only [Nat.mul_one] at hTk hTS
  have hdl : (xs.drop j).length = n - j := by rw [List.length_drop, hlx]
  have htk2 : cur.toList.take k = xs.take k := by
    have := congrArg (List.take k) htk
    rw [List.take_take, Nat.min_eq_left (by omega)] at this
    exact this
  have n1 : (k : Int) ≤ (j : Int) := by omega
  have n2 : (j : Int) ≤ (c : Int) := by omega
  have n3 : ((k : Int) == (j : Int)) = false := by simp; omega
  have n4 : (0 : Int) ≤ (k : Int) := by omega
  have n5 : (k : Int) ≤ (c : Int) := by omega
  have n6 : ¬ (c = k) := by omega
  have n7 : ¬ ((k : Int) = (j : Int)) := by omega
  subst hjn
  have e0 : k + m + (j - j) = k + m := by omega
  have hdn : xs.drop j = [] := List.drop_of_length_le (by omega)
  rw [e0, hdn, List.append_nil]
  by_cases hlt : k + m < j
  · have q1 : (k : Int) + (m : Int) < (j : Int) := by omega
    have q1' : (k : Int) + (m : Int) ≤ (j : Int) := by omega
    have q2 : ¬ (c = k + m) := by omega
    have q3 : (0 : Int) ≤ (k : Int) + (m : Int) := by omega
    have q4 : ((k : Int) + (m : Int)).toNat = k + m := by omega
    go_enter Tryd.func36, Tryd.ntmps36
    go_upto_region 6 with (at_builtin; refine wpList_append_roomB _ rfl _ _ 53 53 rfl N 51 i 1 Tryd.underlying53 hi hsz g k c (xs.take k) rfl hTk _ rfl m _ (hVS.src Tryd.underlying53) (by omega) cur hB (by rw [Nat.mul_one]; exact hcs) ?_; intro w2 hB2 hk2)
    simp only [Nat.mul_one] at hB2
    have hz2 : (overlay cur k vs.toList).size = c := by rw [overlay_size (by omega), hcs]
    go_upto_region 8 with (refine wpList_clear_at _ rfl _ 53 rfl 51 i z 1 Tryd.underlying53 hi hz hzc (by decide) hz1 g (k + m) (j - (k + m)) (c - (k + m)) rfl 51 _ hB2 (by rw [Nat.mul_one]; omega) ?_; intro w3 zs hzl hB3 hk3)
    have hkk : Keeps [g] w w3 := hk2.trans hk3
    have hfin : (overlay (overlay cur k vs.toList) (k + m) zs).toList.take (k + m) = xs.take k ++ vs.toList := by
      rw [overlay_take (by omega) (Nat.le_refl _)]
      have e := overlay_upto (cur := cur) (o := k) (vs := vs.toList) (by omega)
      rw [show k + vs.toList.length = k + m by omega, htk2] at e
      exact e
    have hO3 := hB3.owns (sz := 1) (n := k + m) (c := c) (xs := xs.take k ++ vs.toList) hNg (by rw [overlay_size (by omega), hz2]; try omega) (by omega) hcm (by rw [Nat.mul_one]; exact hfin)
    clear hB3 hB2 hB hfin
    go_wp2_with fail
    go_ret
    exact ⟨_, _, rfl, hO3, fun ad e => by cases e; exact .inl (by simp), by simpa using hkk⟩
  · have q1 : ¬ ((k : Int) + (m : Int) < (j : Int)) := by omega
    go_enter Tryd.func36, Tryd.ntmps36
    go_wp2_with (at_builtin; refine wpList_append_by _ rfl _ _ 53 53 rfl N 51 i z 1 8 Tryd.underlying53 hi hz hsz hby hzc (some ⟨g, 0, none⟩) k c (xs.take k) rfl hTk (.slice (some ⟨vb, 0, none⟩) m m) rfl m vs.toList (hVS.src Tryd.underlying53) (by unfold maxLen; omega) (by omega) hN ?_; intro a2 c2 w2 hO2 hka hba)
    go_ret
    exact ⟨a2, c2, rfl, hO2, by simpa using hba, hka⟩
end Go.Proofs.YtknnhnpcgefchaaDoor
