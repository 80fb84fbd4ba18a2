/- Sums of bytes: Sum of the program and of the document. -/
import Derived.Test.YtfgmbjdeimallaaGreatBy
import Derived.Laws.BitsAllLaws

namespace Go.Proofs.YtfgmbjdeimallaaGreat
open Go.RowKit Go.Lib

/-- one bit -/
def crc1 (s : Nat) : Nat := if s % 2 = 1 then (s / 2) ^^^ 3988292384 else s / 2
def crcN : Nat → Nat → Nat
  | 0, s => s
  | n + 1, s => crcN n (crc1 s)
def crcF (s : Nat) : List UInt8 → Nat
  | [] => s
  | b :: l => crcF (crcN 8 (s ^^^ b.toNat)) l
theorem crcF_nil (s : Nat) : crcF s [] = s := rfl
theorem crcF_cons (s : Nat) (b : UInt8) (l : List UInt8) : crcF s (b :: l) = crcF (crcN 8 (s ^^^ b.toNat)) l := rfl
/-- the sum of bytes -/
def crc (l : List UInt8) : Nat := 4294967295 - crcF 4294967295 l

theorem crc1_lt {s : Nat} (h : s < 4294967296) : crc1 s < 4294967296 := by
  unfold crc1
  split
  · exact Nat.xor_lt_two_pow (n := 32) (by omega) (by decide)
  · omega
theorem crcN_lt : ∀ (n : Nat) {s : Nat}, s < 4294967296 → crcN n s < 4294967296
  | 0, _, h => h
  | n + 1, _, h => crcN_lt n (crc1_lt h)
theorem xor_lt {s : Nat} (h : s < 4294967296) (b : UInt8) : s ^^^ b.toNat < 4294967296 := Nat.xor_lt_two_pow (n := 32) h (by have := b.toNat_lt; omega)
theorem crcF_lt : ∀ (l : List UInt8) {s : Nat}, s < 4294967296 → crcF s l < 4294967296
  | [], _, h => h
  | b :: l, _, h => crcF_lt l (crcN_lt 8 (xor_lt h b))

/-- what the code reckons for one bit -/
theorem crcStep (s : Nat) (h : s < 4294967296) : ∃ m v u : Nat, bits .and .u32 (s : Int) 1 = (m : Int) ∧ IntKind.u32.wrap (-(m : Int)) = (v : Int) ∧ bits .and .u32 3988292384 (v : Int) = (u : Int) ∧ bits .xor .u32 ((s : Int) / 2) (u : Int) = (crc1 s : Int) := by
  have h1 : bits .and .u32 (s : Int) 1 = ((s % 2 : Nat) : Int) := by
    have := u32_and_nat s 1 h (by decide)
    rw [nat_mask1] at this
    exact this
  have h4 : ((s : Int) / 2) = ((s / 2 : Nat) : Int) := by omega
  rcases Nat.mod_two_eq_zero_or_one s with e | e
  · refine ⟨0, 0, 0, by rw [h1, e], by decide, by decide, ?_⟩
    have := u32_xor_nat (s / 2) 0 (by omega) (by decide)
    rw [h4, this, Nat.xor_zero]
    unfold crc1
    rw [if_neg (by omega)]
  · refine ⟨1, 4294967295, 3988292384, by rw [h1, e], by decide, by decide, ?_⟩
    have := u32_xor_nat (s / 2) 3988292384 (by omega) (by decide)
    rw [h4]
    unfold crc1
    rw [if_pos e]
    exact this

theorem xor_ones32 (b : Nat) (hb : b < 2 ^ 32) : (2 ^ 32 - 1) ^^^ b = 2 ^ 32 - 1 - b := by
  apply Nat.eq_of_testBit_eq
  intro i
  rw [Nat.testBit_xor, Nat.testBit_two_pow_sub_one, show 2 ^ 32 - 1 - b = 2 ^ 32 - (b + 1) by omega, Nat.testBit_two_pow_sub_succ hb]
  by_cases hi : i < 32
  · simp [hi]
  · have : b.testBit i = false := Nat.testBit_lt_two_pow (Nat.lt_of_lt_of_le hb (Nat.pow_le_pow_right (by decide) (by omega)))
    simp [hi, this]
theorem crcEnd (l : List UInt8) : bits .xor .u32 IntKind.u32.max (crcF 4294967295 l : Int) = (crc l : Int) := by
  have h := crcF_lt l (s := 4294967295) (by decide)
  have e : IntKind.u32.max = ((2 ^ 32 - 1 : Nat) : Int) := by decide
  rw [e, u32_xor_nat _ _ (by decide) h, xor_ones32 _ h]
  rfl

set_option maxRecDepth 100000 in
set_option maxHeartbeats 8000000 in
theorem sum_any (ao : Option Addr) (c : Nat) (l : List UInt8) (w : World) (h : Rb w ao c l) :
    Calls Tryz.prog 42 #[.slice ao l.length c] w fun e w' => e = .returned (.int .u32 (crc l)) ∧ w' = w := by
  go_enter Tryz.func42, Tryz.ntmps42
  go_wp2_with fail
  go_loopw [3, 8] (fun v s wr => ∃ (k t : Nat), v = .int .u32 (t : Int) ∧ s = .int .i64 (k : Int) ∧ k ≤ l.length ∧ t < 4294967296 ∧ crcF t (l.drop k) = crcF 4294967295 l ∧ wr = w) (fun _ s _ => l.length - (intOf s).toNat)
  case atStart => exact ⟨0, 4294967295, rfl, rfl, by omega, by omega, by rw [List.drop_zero], rfl⟩
  case round =>
    obtain ⟨k, t, rfl, rfl, hk, ht, hr, rfl⟩ := hrel
    by_cases hkl : k = l.length
    · subst hkl
      rw [List.drop_length, crcF_nil] at hr
      have q := crcEnd l
      go_wp2_with fail
      go_ret
      exact ⟨rfl, rfl⟩
    have hlt2 : k < l.length := by omega
    obtain ⟨bb, o, rfl⟩ := h.at (by have := h.cap; omega)
    have hcell := h.cell _ rfl k _ (bys_at hlt2)
    simp only at hcell
    rw [List.drop_eq_getElem_cons hlt2, crcF_cons] at hr
    have hb := l[k].toNat_lt
    have hx := xor_lt ht l[k]
    generalize l[k].toNat = x at *
    have q1 : IntKind.u32.wrap (x : Int) = x := IntWalk.u32_in _ (by omega)
    have q2 := u32_xor_nat t x ht (by omega)
    generalize t ^^^ x = t1 at *
    have hlt3 : (k : Int) < l.length := by omega
    have s2 : IntKind.i64.wrap ((k : Int) + 1) = k + 1 := IntWalk.i64_in _ (by have := h.cap; have := h.most; unfold maxLen at this; omega)
    go_wp2_with fail
    go_loopw [3, 16] (fun v s wx => ∃ (j t : Nat), v = .int .u32 (t : Int) ∧ s = .int .i64 (j : Int) ∧ j ≤ 8 ∧ t < 4294967296 ∧ crcN (8 - j) t = crcN 8 t1 ∧ wx = wr) (fun _ s _ => 8 - (intOf s).toNat)
    case atStart => exact ⟨0, t1, rfl, rfl, by omega, hx, rfl, rfl⟩
    case round =>
      obtain ⟨j, t2, rfl, rfl, hj, ht2, hr2, rfl⟩ := hrel
      by_cases h8 : j = 8
      · subst h8
        rw [show 8 - 8 = 0 from rfl] at hr2
        change t2 = crcN 8 t1 at hr2
        rw [← hr2] at hr
        go_wp2_with fail
        go_roundw
        case rel => exact ⟨k + 1, t2, by simp, by simp, by omega, ht2, hr, by simp⟩
        case measure => simp [intOf]; omega
      have hj8 : (j : Int) < 8 := by omega
      have s3 : IntKind.i64.wrap ((j : Int) + 1) = j + 1 := IntWalk.i64_in _ (by omega)
      obtain ⟨m, v, u, c1, c2, c3, c4⟩ := crcStep t2 ht2
      have hr3 : crcN (8 - (j + 1)) (crc1 t2) = crcN 8 t1 := by
        rw [show 8 - j = (8 - (j + 1)) + 1 by omega] at hr2
        exact hr2
      go_wp2_with fail
      go_roundw
      case rel => exact ⟨j + 1, crc1 t2, by simp, by simp, by omega, crc1_lt ht2, hr3, by simp⟩
      case measure => simp [intOf]; omega
end Go.Proofs.YtfgmbjdeimallaaGreat
