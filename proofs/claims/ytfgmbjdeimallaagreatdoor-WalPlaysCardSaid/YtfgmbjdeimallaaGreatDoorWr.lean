/- Numbers read from bytes: what is read, as plain data; Uint of the program and of the document. -/
import Derived.Test.YtfgmbjdeimallaaGreatDoorWuZ
import Derived.Test.YtfgmbjdeimallaaGreatDoorErrs
import Derived.Laws.BitsAllLaws

namespace Go.Proofs.YtfgmbjdeimallaaGreatDoor
open Go.RowKit Go.Lib

/-- a number behind k bytes that stood for acc: the number, all its bytes, the class -/
def rdU : Nat → Nat → List UInt8 → Nat × Nat × Nat
  | k, _, [] => (0, 0, if k = 10 then 20 else 22)
  | k, acc, b :: l => if k = 10 ∨ (k = 9 ∧ 1 < b.toNat) ∨ (b.toNat = 0 ∧ 0 < k) then (0, 0, 20) else
    if b.toNat < 128 then (acc + b.toNat * 2 ^ (7 * k), k + 1, 0) else rdU (k + 1) (acc + (b.toNat - 128) * 2 ^ (7 * k)) l

theorem rdU_ten (acc : Nat) (l : List UInt8) : rdU 10 acc l = (0, 0, 20) := by
  cases l <;> simp [rdU]

theorem shl_lt (k x : Nat) (h : (k ≤ 8 ∧ x < 128) ∨ (k = 9 ∧ x ≤ 1)) : x * 2 ^ (7 * k) < 18446744073709551616 := by
  rcases h with ⟨hk, hx⟩ | ⟨rfl, hx⟩
  · have h1 : 2 ^ (7 * k) ≤ 2 ^ 56 := Nat.pow_le_pow_right (by decide) (by omega)
    have h2 : x * 2 ^ (7 * k) ≤ 127 * 2 ^ 56 := Nat.mul_le_mul (by omega) h1
    omega
  · omega
theorem acc_lt (k acc x : Nat) (ha : acc < 2 ^ (7 * k)) (hx : x < 128) : acc + x * 2 ^ (7 * k) < 2 ^ (7 * (k + 1)) := by
  have e : 2 ^ (7 * (k + 1)) = 128 * 2 ^ (7 * k) := by rw [Nat.mul_add, Nat.pow_add]; omega
  have h2 : x * 2 ^ (7 * k) ≤ 127 * 2 ^ (7 * k) := Nat.mul_le_mul_right _ (by omega)
  omega
theorem u64_orS (k acc x : Nat) (hk : k ≤ 9) (ha : acc < 2 ^ (7 * k)) (hx : x * 2 ^ (7 * k) < 18446744073709551616) :
    bits .or .u64 (acc : Int) ((x * 2 ^ (7 * k) : Nat) : Int) = ((acc + x * 2 ^ (7 * k) : Nat) : Int) := by
  have h1 : 2 ^ (7 * k) ≤ 2 ^ 63 := Nat.pow_le_pow_right (by decide) (by omega)
  rw [u64_or_nat _ _ (by omega) hx, Nat.or_comm, nat_join (7 * k) _ _ (Nat.mul_mod_left _ _) ha, Nat.add_comm]
/-- what the code reckons for one byte -/
theorem orStep (k acc x : Nat) (h : (k ≤ 8 ∧ x < 128) ∨ (k = 9 ∧ x ≤ 1)) (ha : acc < 2 ^ (7 * k)) :
    ∃ y z : Nat, IntKind.u64.wrap ((x : Int) * 2 ^ (7 * k)) = (y : Int) ∧ bits .or .u64 (acc : Int) (y : Int) = (z : Int) ∧ z = acc + x * 2 ^ (7 * k) := by
  have hl := shl_lt k x h
  refine ⟨x * 2 ^ (7 * k), acc + x * 2 ^ (7 * k), ?_, u64_orS k acc x (by omega) ha hl, rfl⟩
  have e : ((x : Int) * 2 ^ (7 * k)) = ((x * 2 ^ (7 * k) : Nat) : Int) := by simp
  rw [e]
  exact IntWalk.u64_in _ (by omega)

theorem wform (p : ByteArray) (w : World) :
    Calls Tryz.prog 54 #[.string p] w fun e w' => ∃ g, e = .returned (.iface 95 (.pointer (some ⟨g, 0, none⟩))) ∧ ErrIs w' (.iface 95 (.pointer (some ⟨g, 0, none⟩))) 20 ∧ Keeps [] w w' := by
  go_enter Tryz.func54, Tryz.ntmps54
  go_wp2
  go_ret
  exact ⟨_, rfl, .inr ⟨_, p, rfl, Blk.fresh _ _ _⟩, (Keeps.refl [] w).alloc _⟩
theorem wshort (p : ByteArray) (w : World) :
    Calls Tryz.prog 52 #[.string p] w fun e w' => ∃ g, e = .returned (.iface 95 (.pointer (some ⟨g, 0, none⟩))) ∧ ErrIs w' (.iface 95 (.pointer (some ⟨g, 0, none⟩))) 22 ∧ Keeps [] w w' := by
  go_enter Tryz.func52, Tryz.ntmps52
  go_wp2
  go_ret
  exact ⟨_, rfl, .inr ⟨_, p, rfl, Blk.fresh _ _ _⟩, (Keeps.refl [] w).alloc _⟩

set_option maxRecDepth 100000 in
set_option maxHeartbeats 8000000 in
theorem uint_any (ao : Option Addr) (c : Nat) (l : List UInt8) (w : World) (h : Rb w ao c l) :
    Calls Tryz.prog 72 #[.slice ao l.length c] w fun e w' => ∃ ev, e = .returned (.tuple #[.int .u64 (rdU 0 0 l).1, .int .i64 (rdU 0 0 l).2.1, ev]) ∧ ErrIs w' ev (rdU 0 0 l).2.2 ∧ (ev = .nilIface ↔ (rdU 0 0 l).2.2 = 0) ∧ Keeps [] w w' := by
  go_enter Tryz.func72, Tryz.ntmps72
  go_wp2_with fail
  go_loopw [5, 8] (fun v s wr => ∃ (k acc : Nat), v = .int .u64 (acc : Int) ∧ s = .int .i64 (k : Int) ∧ k ≤ 10 ∧ k ≤ l.length ∧ acc < 2 ^ (7 * k) ∧ rdU k acc (l.drop k) = rdU 0 0 l ∧ wr = w) (fun _ s _ => 10 - (intOf s).toNat)
  case atStart => exact ⟨0, 0, rfl, rfl, by omega, by omega, by simp, rfl, rfl⟩
  case round =>
    obtain ⟨k, acc, rfl, rfl, hk, hkl, ha, hr, rfl⟩ := hrel
    by_cases h10 : k = 10
    · subst h10
      have hv : rdU 0 0 l = (0, 0, 20) := by rw [← hr]; exact rdU_ten _ _
      go_wp2_with fail
      refine (wform _ _).mono ?_
      rintro e w1 ⟨g, rfl, hE, hk1⟩
      go_wp2_with fail
      go_ret3
      exact ⟨_, by rw [hv]; rfl, by rw [hv]; exact hE, by rw [hv]; simp, hk1⟩
    have hlt : (k : Int) < 10 := by omega
    by_cases hl : k = l.length
    · subst hl
      have hv : rdU 0 0 l = (0, 0, 22) := by rw [← hr, List.drop_length, rdU, if_neg h10]
      go_wp2_with fail
      refine (wshort _ _).mono ?_
      rintro e w1 ⟨g, rfl, hE, hk1⟩
      go_wp2_with fail
      go_ret3
      exact ⟨_, by rw [hv]; rfl, by rw [hv]; exact hE, by rw [hv]; simp, hk1⟩
    have hlt2 : k < l.length := by omega
    obtain ⟨bb, o, rfl⟩ := h.at (by have := h.cap; omega)
    have hcell := h.cell _ rfl k _ (bys_at hlt2)
    simp only at hcell
    rw [List.drop_eq_getElem_cons hlt2, rdU] at hr
    have hb := l[k].toNat_lt
    generalize l[k].toNat = x at *
    have hkl2 : ¬ (l.length ≤ k) := by omega
    have s1 : IntKind.i64.wrap (7 * (k : Int)) = 7 * k := IntWalk.i64_in _ (by omega)
    have s2 : IntKind.i64.wrap ((k : Int) + 1) = k + 1 := IntWalk.i64_in _ (by omega)
    by_cases hA : k = 9 ∧ 1 < x
    · obtain ⟨hA1, hA2⟩ := hA
      have hv : rdU 0 0 l = (0, 0, 20) := by rw [← hr, if_pos (by omega)]
      subst hA1
      have n2 : (1 : Int) < (x : Int) := by omega
      go_wp2_with fail
      refine (wform _ _).mono ?_
      rintro e w1 ⟨g, rfl, hE, hk1⟩
      go_wp2_with fail
      go_ret3
      exact ⟨_, by rw [hv]; rfl, by rw [hv]; exact hE, by rw [hv]; simp, hk1⟩
    by_cases hB : x = 0 ∧ 0 < k
    · obtain ⟨hB1, hB2⟩ := hB
      have hv : rdU 0 0 l = (0, 0, 20) := by rw [← hr, if_pos (by omega)]
      have n3 : ((x : Int) == 0) = true := by simp; omega
      have n2 : ¬ ((1 : Int) < (x : Int)) := by omega
      by_cases h9 : k = 9
      · subst h9
        subst hB1
        go_wp2_with fail
        refine (wform _ _).mono ?_
        rintro e w1 ⟨g, rfl, hE, hk1⟩
        go_wp2_with fail
        go_ret3
        exact ⟨_, by rw [hv]; rfl, by rw [hv]; exact hE, by rw [hv]; simp, hk1⟩
      · have n1 : ((k : Int) == 9) = false := by simp; omega
        go_wp2_with fail
        refine (wform _ _).mono ?_
        rintro e w1 ⟨g, rfl, hE, hk1⟩
        go_wp2_with fail
        go_ret3
        exact ⟨_, by rw [hv]; rfl, by rw [hv]; exact hE, by rw [hv]; simp, hk1⟩
    rw [if_neg (by omega)] at hr
    by_cases hC : x < 128
    · rw [if_pos hC] at hr
      obtain ⟨y, z, hy, hz, hzz⟩ := orStep k acc x (by omega) ha
      have hzz' := Lib.hid hzz
      have n4 : (x : Int) < 128 := by omega
      have s3 : IntKind.u64.wrap (x : Int) = x := IntWalk.u64_in _ (by omega)
      have hr' := Lib.hid hr
      clear hr hzz
      by_cases h9 : k = 9
      · subst h9
        obtain rfl : x = 1 := by omega
        have o1 : bits .or .u64 (acc : Int) 9223372036854775808 = ((acc + 9223372036854775808 : Nat) : Int) := by
          have := u64_orS 9 acc 1 (by omega) ha (by decide)
          simpa using this
        have o2 : z = acc + 9223372036854775808 := by rw [hzz'.out]
        have o3 : (z : Int) = (acc : Int) + 9223372036854775808 := by omega
        clear hy hz
        go_wp2_with fail
        have hr := hr'.out
        rw [← hzz'.out] at hr
        go_ret3
        exact ⟨_, by rw [← hr]; simp [o3], .inl ⟨rfl, by rw [← hr]; rfl⟩, by rw [← hr]; simp, Keeps.refl _ _⟩
      have n1 : ((k : Int) == 9) = false := by simp; omega
      by_cases h0 : x = 0
      · obtain rfl : k = 0 := by omega
        subst h0
        obtain rfl : acc = 0 := by omega
        have hr2 : ((0 : Nat), (1 : Nat), (0 : Nat)) = rdU 0 0 l := hr'.out
        have hr3 := Lib.hid hr2
        clear hr2 hr' hzz'
        have o1 : bits .or .u64 0 0 = 0 := by decide
        simp only [Nat.add_zero] at hcell
        clear hy hz
        have hne : ¬ (l.length = 0) := by omega
        go_wp2_with fail
        have hr := hr3.out
        go_ret3
        exact ⟨_, by rw [← hr]; rfl, .inl ⟨rfl, by rw [← hr]; rfl⟩, by rw [← hr]; simp, Keeps.refl _ _⟩
      · have n3 : ((x : Int) == 0) = false := by simp; omega
        go_wp2_with fail
        have hr := hr'.out
        rw [← hzz'.out] at hr
        go_ret3
        exact ⟨_, by rw [← hr]; rfl, .inl ⟨rfl, by rw [← hr]; rfl⟩, by rw [← hr]; simp, Keeps.refl _ _⟩
    · rw [if_neg hC] at hr
      have e1 : IntKind.u8.wrap ((x : Int) - 128) = ((x - 128 : Nat) : Int) := by rw [IntKind.wrap_u8']; omega
      have n1 : ((k : Int) == 9) = false := by simp; omega
      have n3 : ((x : Int) == 0) = false := by simp; omega
      have n4 : ¬ ((x : Int) < 128) := by omega
      obtain ⟨y, z, hy, hz, hzz⟩ := orStep k acc (x - 128) (by omega) ha
      have hal := acc_lt k acc (x - 128) ha (by omega)
      rw [← hzz] at hal hr
      clear hzz
      have s3 : IntKind.u64.wrap ((x - 128 : Nat) : Int) = ((x - 128 : Nat) : Int) := IntWalk.u64_in _ (by omega)
      generalize x - 128 = u at *
      go_wp2_with fail
      go_roundw
      case rel => exact ⟨k + 1, z, by simp, by simp, by omega, by omega, hal, hr, by simp⟩
      case measure => simp [intOf]; omega

/-- what was written is read, whatever stands behind -/
theorem rdU_uvarint (more : List UInt8) : ∀ (m k acc : Nat), k ≤ 9 → m * 2 ^ (7 * k) < 18446744073709551616 → (k = 0 ∨ m ≠ 0) → rdU k acc (uvarint m ++ more) = (acc + m * 2 ^ (7 * k), k + (uvarint m).length, 0) := by
  intro m
  induction m using Nat.strongRecOn with
  | ind m ih =>
  intro k acc hk hm h0
  by_cases h : m < 128
  · have e : m.toUInt8.toNat = m := by simp only [Nat.toUInt8, UInt8.toNat_ofNat']; omega
    rw [uvarint_small h, List.singleton_append, rdU, e, if_neg, if_pos h]
    · rfl
    · rintro (h1 | ⟨rfl, h2⟩ | ⟨h1, h2⟩)
      · omega
      · have : 2 * 2 ^ (7 * 9) ≤ m * 2 ^ (7 * 9) := Nat.mul_le_mul_right _ (by omega)
        omega
      · omega
  · have e : (m % 128 + 128).toUInt8.toNat = m % 128 + 128 := by simp only [Nat.toUInt8, UInt8.toNat_ofNat']; omega
    have hk9 : k ≤ 8 := by
      rcases Nat.lt_or_ge k 9 with h1 | h1
      · omega
      · obtain rfl : k = 9 := by omega
        have : 128 * 2 ^ (7 * 9) ≤ m * 2 ^ (7 * 9) := Nat.mul_le_mul_right _ (by omega)
        omega
    have ep : 2 ^ (7 * (k + 1)) = 128 * 2 ^ (7 * k) := by rw [Nat.mul_add, Nat.pow_add]; omega
    have em : m * 2 ^ (7 * k) = m % 128 * 2 ^ (7 * k) + m / 128 * (128 * 2 ^ (7 * k)) := by
      rw [← Nat.mul_assoc, ← Nat.add_mul]
      congr 1
      omega
    rw [uvarint_big (by omega), List.cons_append, rdU, e, if_neg (by omega), if_neg (by omega), Nat.add_sub_cancel, ih (m / 128) (by omega) (k + 1) _ (by omega) (by rw [ep]; omega) (.inr (by omega)), ep]
    simp only [List.length_cons, Prod.mk.injEq, and_true]
    omega
theorem rdU_put (n : Nat) (more : List UInt8) (h : n < 18446744073709551616) : rdU 0 0 (uvarint n ++ more) = (n, (uvarint n).length, 0) := by
  rw [rdU_uvarint more n 0 0 (by omega) (by simpa using h) (.inl rfl)]
  simp
end Go.Proofs.YtfgmbjdeimallaaGreatDoor
