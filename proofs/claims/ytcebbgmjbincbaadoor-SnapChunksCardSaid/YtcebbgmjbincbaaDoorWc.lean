/- Sums of bytes, plainly: they are linear; a bit that is turned; a sum that fits. -/
import Derived.Test.YtcebbgmjbincbaaDoorWf
namespace Go.Proofs.YtcebbgmjbincbaaDoor
open Go.RowKit Go.Lib

theorem crc1_xor (a b : Nat) : crc1 (a ^^^ b) = crc1 a ^^^ crc1 b := by
  have hd : (a ^^^ b) / 2 = a / 2 ^^^ b / 2 := Nat.xor_div_two
  have hm : (a ^^^ b) % 2 = (a % 2 + b % 2) % 2 := by
    have h1 := @Nat.xor_mod_two_eq_one a b
    rcases Nat.mod_two_eq_zero_or_one a with ha | ha <;> rcases Nat.mod_two_eq_zero_or_one b with hb | hb <;> rcases Nat.mod_two_eq_zero_or_one (a ^^^ b) with hc | hc <;> simp_all
  unfold crc1
  rw [hd, hm]
  rcases Nat.mod_two_eq_zero_or_one a with ha | ha <;> rcases Nat.mod_two_eq_zero_or_one b with hb | hb <;> simp only [ha, hb]
  · simp
  · simp [Nat.xor_assoc]
  · simp only [if_true, Nat.zero_ne_one, if_false]
    rw [Nat.xor_assoc, Nat.xor_comm (b / 2), ← Nat.xor_assoc]
  · simp only [Nat.reduceAdd, Nat.reduceMod, if_true, Nat.zero_ne_one, if_false]
    have : (a / 2 ^^^ 3988292384) ^^^ (b / 2 ^^^ 3988292384) = (a / 2 ^^^ b / 2) ^^^ (3988292384 ^^^ 3988292384) := by
      rw [Nat.xor_assoc, Nat.xor_assoc, ← Nat.xor_assoc 3988292384, Nat.xor_comm 3988292384 (b / 2), Nat.xor_assoc (b / 2)]
    rw [this, Nat.xor_self, Nat.xor_zero]
theorem crcN_xor : ∀ (n a b : Nat), crcN n (a ^^^ b) = crcN n a ^^^ crcN n b
  | 0, _, _ => rfl
  | n + 1, a, b => by
    show crcN n (crc1 (a ^^^ b)) = crcN n (crc1 a) ^^^ crcN n (crc1 b)
    rw [crc1_xor, crcN_xor n]
theorem crcN_add : ∀ (m n s : Nat), crcN (m + n) s = crcN n (crcN m s)
  | 0, n, s => by rw [Nat.zero_add]; rfl
  | m + 1, n, s => by
    rw [show m + 1 + n = (m + n) + 1 by omega]
    exact crcN_add m n (crc1 s)
theorem crc1_zero {a : Nat} (h : crc1 a = 0) (ha : a < 4294967296) : a = 0 := by
  unfold crc1 at h
  split at h
  · exfalso
    have h1 : a / 2 = 3988292384 := by
      have := congrArg (· ^^^ 3988292384) h
      simp only [Nat.xor_assoc, Nat.xor_self, Nat.xor_zero, Nat.zero_xor] at this
      exact this
    omega
  · omega
theorem crcN_zero : ∀ (n : Nat) {a : Nat}, crcN n a = 0 → a < 4294967296 → a = 0
  | 0, _, h, _ => h
  | n + 1, _, h, ha => crc1_zero (crcN_zero n h (crc1_lt ha)) ha
theorem crc1_even (x : Nat) : crc1 (2 * x) = x := by
  unfold crc1
  rw [if_neg (by omega)]
  omega
theorem crcN_shift : ∀ (k x : Nat), crcN k (2 ^ k * x) = x
  | 0, x => by simp [crcN]
  | k + 1, x => by
    show crcN k (crc1 (2 ^ (k + 1) * x)) = x
    rw [Nat.pow_succ, Nat.mul_comm (2 ^ k) 2, Nat.mul_assoc, crc1_even, crcN_shift k]
theorem crcF_xor : ∀ (l : List UInt8) (x y : Nat), crcF (x ^^^ y) l = crcF x l ^^^ crcN (8 * l.length) y
  | [], _, _ => rfl
  | b :: l, x, y => by
    rw [crcF_cons, crcF_cons, Nat.xor_assoc, Nat.xor_comm y, ← Nat.xor_assoc, crcN_xor, crcF_xor l, List.length_cons, show 8 * (l.length + 1) = 8 + 8 * l.length by omega, crcN_add]
/-- one bit turned -/
theorem crcF_flip : ∀ (l : List UInt8) (s q : Nat) (x : UInt8) (r : Nat) (hq : q < l.length), r < 8 → x.toNat = l[q].toNat ^^^ 2 ^ r → crcF s (l.set q x) = crcF s l ^^^ crcN (8 * l.length - (8 * q + r)) 1
  | b :: l, s, 0, x, r, _, hr, hx => by
    simp only [List.getElem_cons_zero] at hx
    rw [List.set_cons_zero, crcF_cons, crcF_cons, hx, ← Nat.xor_assoc, crcN_xor, crcF_xor]
    congr 1
    rw [List.length_cons, show 8 * (l.length + 1) - (8 * 0 + r) = (8 - r) + 8 * l.length by omega, crcN_add]
    congr 1
    have := crcN_shift r 1
    rw [Nat.mul_one] at this
    rw [show 8 = r + (8 - r) by omega, crcN_add, this]
    congr 1
    omega
  | b :: l, s, q + 1, x, r, hq, hr, hx => by
    simp only [List.getElem_cons_succ] at hx
    rw [List.set_cons_succ, crcF_cons, crcF_cons, crcF_flip l _ q x r (by simpa using hq) hr hx, List.length_cons]
    congr 2
    omega
theorem num4_val (t : Nat) (ht : t < 4294967296) : (UInt8.ofNat t).toNat = t % 256 ∧ (UInt8.ofNat (t / 256)).toNat = t / 256 % 256 ∧ (UInt8.ofNat (t / 65536)).toNat = t / 65536 % 256 ∧ (UInt8.ofNat (t / 16777216)).toNat = t / 16777216 := by
  refine ⟨by rw [UInt8.toNat_ofNat'], by rw [UInt8.toNat_ofNat'], by rw [UInt8.toNat_ofNat'], by rw [UInt8.toNat_ofNat']; omega⟩
theorem xor_low (t : Nat) : t = t % 256 ^^^ 2 ^ 8 * (t / 256) := by
  have h1 : t % 256 ||| 2 ^ 8 * (t / 256) = t := by
    rw [Nat.or_comm]
    have := Nat.two_pow_add_eq_or_of_lt (i := 8) (b := t % 256) (by omega) (t / 256)
    omega
  have h2 : t % 256 ^^^ 2 ^ 8 * (t / 256) = t % 256 ||| 2 ^ 8 * (t / 256) := by
    apply Nat.eq_of_testBit_eq
    intro i
    rw [Nat.testBit_xor, Nat.testBit_or]
    by_cases hi : i < 8
    · have : (2 ^ 8 * (t / 256)).testBit i = false := by rw [Nat.testBit_two_pow_mul]; simp; omega
      simp [this]
    · have : (t % 256).testBit i = false := Nat.testBit_lt_two_pow (Nat.lt_of_lt_of_le (by omega : t % 256 < 2 ^ 8) (Nat.pow_le_pow_right (by decide) (by omega)))
      simp [this]
  rw [h2, h1]
theorem crcF_low (s t : Nat) : crcN 8 (s ^^^ t) = crcN 8 (s ^^^ t % 256) ^^^ (t / 256) := by
  have := xor_low t
  conv => lhs; rw [this]
  rw [← Nat.xor_assoc, crcN_xor, crcN_shift]
/-- four bytes at once -/
theorem crcF_num4 (s t : Nat) (ht : t < 4294967296) : crcF s (num4 t) = crcN 32 (s ^^^ t) := by
  obtain ⟨h0, h1, h2, h3⟩ := num4_val t ht
  unfold num4
  rw [crcF_cons, crcF_cons, crcF_cons, crcF_cons, crcF_nil, h0, h1, h2, h3]
  have e1 := crcF_low s t
  have e2 := crcF_low (crcN 8 (s ^^^ t % 256)) (t / 256)
  have e3 := crcF_low (crcN 8 (crcN 8 (s ^^^ t % 256) ^^^ t / 256 % 256)) (t / 65536)
  rw [show t / 256 / 256 = t / 65536 by omega] at e2
  rw [show t / 65536 / 256 = t / 16777216 by omega] at e3
  rw [show (32 : Nat) = 8 + (8 + (8 + 8)) by rfl, crcN_add, e1, crcN_add, e2, crcN_add, e3]
theorem crcF_append : ∀ (l m : List UInt8) (s : Nat), crcF s (l ++ m) = crcF (crcF s l) m
  | [], _, _ => rfl
  | b :: l, m, s => by rw [List.cons_append, crcF_cons, crcF_cons, crcF_append l m]
/-- a sum fits just where the whole stands as it ought to -/
theorem sum_fits (p : List UInt8) (t : Nat) (ht : t < 4294967296) : (t = crc p ↔ crcF 4294967295 (p ++ num4 t) = crcN 32 4294967295) := by
  have hp := crcF_lt p (s := 4294967295) (by decide)
  rw [crcF_append, crcF_num4 _ _ ht]
  have hc : crcF 4294967295 p ^^^ crc p = 4294967295 := by
    unfold crc
    have := xor_ones32 (crcF 4294967295 p) hp
    have e : (2 ^ 32 - 1 : Nat) = 4294967295 := by decide
    rw [e] at this
    rw [← this, Nat.xor_comm 4294967295, ← Nat.xor_assoc, Nat.xor_self, Nat.zero_xor]
  constructor
  · rintro rfl
    rw [hc]
  · intro h
    have h1 : crcN 32 ((crcF 4294967295 p ^^^ t) ^^^ 4294967295) = 0 := by rw [crcN_xor, h, Nat.xor_self]
    have h2 := crcN_zero 32 h1 (Nat.xor_lt_two_pow (n := 32) (Nat.xor_lt_two_pow (n := 32) hp ht) (by decide))
    have h3 : crcF 4294967295 p ^^^ t = crcF 4294967295 p ^^^ crc p := by
      rw [hc]
      have := congrArg (· ^^^ 4294967295) h2
      simp only [Nat.xor_assoc, Nat.xor_self, Nat.xor_zero, Nat.zero_xor] at this
      exact this
    have h4 := congrArg (crcF 4294967295 p ^^^ ·) h3
    simp only [← Nat.xor_assoc, Nat.xor_self, Nat.zero_xor] at h4
    exact h4
end Go.Proofs.YtcebbgmjbincbaaDoor
