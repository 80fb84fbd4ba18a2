/- The document's Uint, Int, Text. -/
import Derived.Test.YtcaahgjepkcenaaDoorWr
import Derived.Test.YtcaahgjepkcenaaDoorWx
import Derived.Test.YtcaahgjepkcenaaDoorWt
import Derived.Test.YtcaahgjepkcenaaDoorWp2

namespace Go.Proofs.YtcaahgjepkcenaaDoor
open Go.RowKit Go.Lib

set_option maxRecDepth 100000 in
set_option maxHeartbeats 8000000 in
theorem uintR_any (ao : Option Addr) (c : Nat) (l : List UInt8) (w : World) (h : Rb w ao c l) :
    Calls Tryd.prog 36 #[.slice ao l.length c] w fun e w' => e = .returned (.tuple #[.int .u64 (rdU 0 0 l).1, .int .i64 (rdU 0 0 l).2.1, .int .i64 (rdU 0 0 l).2.2]) ∧ w' = w := by
  have hlm := h.most
  have hlc := h.cap
  unfold maxLen at hlm
  go_enter Tryd.func36, Tryd.ntmps36
  go_wp2_with fail
  go_loopw [5, 6] (fun v s wr => ∃ (k acc : Nat), v = .int .u64 (acc : Int) ∧ s = .int .i64 (k : Int) ∧ k ≤ 9 ∧ k ≤ l.length ∧ acc < 2 ^ (7 * k) ∧ rdU k acc (l.drop k) = rdU 0 0 l ∧ wr = w) (fun _ s _ => 10 - (intOf s).toNat)
  case atStart => exact ⟨0, 0, rfl, rfl, by omega, by omega, by simp, rfl, rfl⟩
  case round =>
    obtain ⟨k, acc, rfl, rfl, hk, hkl, ha, hr, rfl⟩ := hrel
    by_cases hl : k = l.length
    · subst hl
      have hv : rdU 0 0 l = (0, 0, 22) := by rw [← hr, List.drop_length, rdU, if_neg (by omega)]
      have HV := Lib.hid hv
      clear hv hr
      go_wp2_with fail
      go_ret3
      exact ⟨by rw [HV.out]; rfl, rfl⟩
    have hlt2 : k < l.length := by omega
    have hlt : (k : Int) < (l.length : Int) := by omega
    obtain ⟨bb, o, rfl⟩ := h.at (by have := h.cap; omega)
    have hcell := h.cell _ rfl k _ (bys_at hlt2)
    simp only at hcell
    rw [List.drop_eq_getElem_cons hlt2, rdU] at hr
    have hb := l[k].toNat_lt
    generalize l[k].toNat = x at *
    have s1 : IntKind.i64.wrap (7 * (k : Int)) = 7 * k := IntWalk.i64_in _ (by omega)
    have s2 : IntKind.i64.wrap ((k : Int) + 1) = k + 1 := IntWalk.i64_in _ (by omega)
    obtain ⟨dd, hdd⟩ : ∃ dd : Nat, dd = x % 128 := ⟨_, rfl⟩
    have m1 : (x : Int) % 128 = (dd : Int) := by omega
    have s3 : IntKind.u64.wrap (dd : Int) = dd := IntWalk.u64_in _ (by omega)
    have HDD := Lib.hid hdd
    clear hdd
    by_cases hA : k = 9 ∧ 1 < x
    · obtain ⟨hA1, hA2⟩ := hA
      have hv : rdU 0 0 l = (0, 0, 20) := by rw [← hr, if_pos (by omega)]
      have HV := Lib.hid hv
      subst hA1
      clear hv hr
      have hdx := HDD.out
      by_cases hd1 : 1 < dd
      · have n2 : (1 : Int) < (dd : Int) := by omega
        clear hdx
        go_wp2_with fail
        go_ret3
        exact ⟨by rw [HV.out]; rfl, rfl⟩
      · have n2 : ¬ ((1 : Int) < (dd : Int)) := by omega
        have n3 : (128 : Int) ≤ (x : Int) := by omega
        clear hdx
        go_wp2_with fail
        go_ret3
        exact ⟨by rw [HV.out]; rfl, rfl⟩
    by_cases hB : x = 0 ∧ 0 < k
    · obtain ⟨hB1, hB2⟩ := hB
      have hv : rdU 0 0 l = (0, 0, 20) := by rw [← hr, if_pos (by omega)]
      have HV := Lib.hid hv
      have hdx := HDD.out
      obtain rfl : dd = 0 := by omega
      subst hB1
      clear hv hr hdx
      by_cases h9 : k = 9
      · subst h9
        go_wp2_with fail
        go_ret3
        exact ⟨by rw [HV.out]; rfl, rfl⟩
      · have n1 : ((k : Int) == 9) = false := by simp; omega
        have n4 : (0 : Int) < (k : Int) := by omega
        go_wp2_with fail
        go_ret3
        exact ⟨by rw [HV.out]; rfl, rfl⟩
    rw [if_neg (by omega)] at hr
    by_cases hC : x < 128
    · rw [if_pos hC] at hr
      have hdx := HDD.out
      obtain rfl : dd = x := by omega
      obtain ⟨y, z, hy, hz, hzz⟩ := orStep k acc dd (by omega) ha
      have HR := Lib.hid hr
      have n4 : (dd : Int) < 128 := by omega
      have n5 : ¬ ((128 : Int) ≤ (dd : Int)) := by omega
      have HZ := Lib.hid hzz
      clear hr hzz hdx
      by_cases h9 : k = 9
      · subst h9
        have n2 : ¬ ((1 : Int) < (dd : Int)) := by omega
        have h01 : dd = 1 := by omega
        subst h01
        have o1 : bits .or .u64 (acc : Int) 9223372036854775808 = ((acc + 9223372036854775808 : Nat) : Int) := by
          have := u64_orS 9 acc 1 (by omega) ha (by decide)
          simpa using this
        have o2 : z = acc + 9223372036854775808 := by rw [HZ.out]
        have o3 := Lib.hid (show (z : Int) = (acc : Int) + 9223372036854775808 by omega)
        clear hy hz o2
        go_wp2_with fail
        go_ret3
        have hr := HR.out
        rw [← HZ.out] at hr
        exact ⟨by rw [← hr]; simp [o3.out], rfl⟩
      have n1 : ((k : Int) == 9) = false := by simp; omega
      by_cases h0 : dd = 0
      · obtain rfl : k = 0 := by omega
        subst h0
        obtain rfl : acc = 0 := by omega
        have hr2 : ((0 : Nat), (1 : Nat), (0 : Nat)) = rdU 0 0 l := HR.out
        have HR2 := Lib.hid hr2
        clear hr2 HR HZ
        have o1 : bits .or .u64 0 0 = 0 := by decide
        simp only [Nat.add_zero] at hcell
        clear hy hz
        have hne : ¬ (l.length = 0) := by omega
        go_wp2_with fail
        go_ret3
        exact ⟨by rw [← HR2.out]; rfl, rfl⟩
      · have n3 : ((dd : Int) == 0) = false := by simp; omega
        go_wp2_with fail
        all_goals
          go_ret3
          have hr := HR.out
          rw [← HZ.out] at hr
          exact ⟨by rw [← hr]; rfl, rfl⟩
    · rw [if_neg hC] at hr
      have hdx := HDD.out
      have e1 : x - 128 = dd := by omega
      rw [e1] at hr
      have n1 : ((k : Int) == 9) = false := by simp; omega
      have n3 : ((x : Int) == 0) = false := by simp; omega
      have n4 : ¬ ((x : Int) < 128) := by omega
      obtain ⟨y, z, hy, hz, hzz⟩ := orStep k acc dd (by omega) ha
      have hal := acc_lt k acc dd ha (by omega)
      rw [← hzz] at hal hr
      have HR := Lib.hid hr
      have HAL := Lib.hid hal
      clear hzz hdx e1 hr hal
      go_wp2_with fail
      all_goals
        go_roundw
        case rel => exact ⟨k + 1, z, by simp, by simp, by omega, by omega, HAL.out, HR.out, by simp⟩
        case measure => simp [intOf]; omega
end Go.Proofs.YtcaahgjepkcenaaDoor
