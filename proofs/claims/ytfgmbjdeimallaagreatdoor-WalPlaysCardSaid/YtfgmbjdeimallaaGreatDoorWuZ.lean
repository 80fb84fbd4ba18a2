/- Numbers as bytes: PutUint, PutInt, PutText, of the program and of the document. -/
import Derived.Test.YtfgmbjdeimallaaGreatDoorBy
import Derived.Lib.Varint
import Derived.Lib.Zigzag
import Derived.OpenShut
import Derived.Laws.BitsAllLaws

namespace Go.Proofs.YtfgmbjdeimallaaGreatDoor
open Go.RowKit Go.Lib

theorem u8_wrap (m : Nat) : IntKind.u8.wrap (m : Int) = (m : Int) % 256 := by simp [IntKind.wrap, IntKind.bits, IntKind.signed]
theorem u8_or (m : Nat) : bits .or .u8 ((m : Int) % 256) 128 = (((m % 128 + 128).toUInt8.toNat : Nat) : Int) := by
  rw [u8_or128_any _ (by omega) (by omega)]
  have : (m % 128 + 128).toUInt8.toNat = m % 128 + 128 := by
    simp only [Nat.toUInt8, UInt8.toNat_ofNat']
    omega
  rw [this]
  omega
theorem u8_of (m : Nat) (h : m < 128) : (m : Int) % 256 = ((m.toUInt8.toNat : Nat) : Int) := by
  have : m.toUInt8.toNat = m := by
    simp only [Nat.toUInt8, UInt8.toNat_ofNat']
    omega
  rw [this]
  omega

set_option maxRecDepth 100000 in
set_option maxHeartbeats 4000000 in
theorem putUint (n : Nat) (w : World) (hn : n < 18446744073709551616) :
    Calls Tryz.prog 69 #[.int .u64 n] w fun e w' => ∃ ao c, e = .returned (.slice ao (uvarint n).length c) ∧ Own w' w.heap.size ao c (uvarint n) ∧ Keeps [] w w' := by
  obtain ⟨i, z, hi, hz, hsz, hby, hzc⟩ := infoB
  go_enter Tryz.func69, Tryz.ntmps69
  go_wp2_with fail
  go_loopw [0, 3] (fun v s wr => ∃ (m : Nat) (ao : Option Addr) (c : Nat) (l : List UInt8), v = .int .u64 (m : Int) ∧ s = .slice ao l.length c ∧ m ≤ n ∧ l ++ uvarint m = uvarint n ∧ Own wr w.heap.size ao c l ∧ Keeps [] w wr) (fun v _ _ => (intOf v).toNat)
  case atStart => exact ⟨n, none, 0, [], rfl, rfl, Nat.le_refl _, rfl, Own.nil _ _, Keeps.refl _ _⟩
  case round =>
    obtain ⟨m, ao, c, l, rfl, rfl, hmn, hl, hO, hk⟩ := hrel
    have hll : l.length ≤ 10 := by have := uvarint_length64 hn; rw [← hl] at this; simp at this; omega
    have k1 := u8_wrap m
    by_cases hm : m < 128
    · have hlt : ¬ ((128 : Int) ≤ (m : Int)) := by omega
      have k2 := u8_of m hm
      rw [uvarint_small hm] at hl
      generalize m.toUInt8 = x at *
      go_wp2_with (at_builtin; refine wpList_append_by _ rfl _ _ 26 26 rfl (w.heap.size) 5 i z 1 1 Tryz.underlying26 hi hz hsz hby hzc (ao) _ (c) _ rfl (hO.keep0 ((Keeps.refl [] wr).alloc _)) _ rfl 1 _ ((rb1 (Blk.fresh _ _ _)).src Tryz.underlying26) (by unfold maxLen; omega) (by omega) (by have := hk.size; simp; omega) ?_; intro ao' c' w' hO' hk' hb')
      have hO2 := Own.of hO' (bys_append l [x]).symm
      rw [hl] at hO2
      have hlen : l.length + 1 = (uvarint n).length := by rw [← hl]; simp
      rw [hlen]
      go_ret
      exact ⟨ao', c', rfl, hO2, (hk.alloc _).own hk' (hO.keep0 ((Keeps.refl [] wr).alloc _))⟩
    · have hlt : ((128 : Int) ≤ (m : Int)) := by omega
      have k2 := u8_or m
      rw [uvarint_big (by omega)] at hl
      generalize (m % 128 + 128).toUInt8 = x at *
      go_wp2_with (at_builtin; refine wpList_append_by _ rfl _ _ 26 26 rfl (w.heap.size) 5 i z 1 1 Tryz.underlying26 hi hz hsz hby hzc (ao) _ (c) _ rfl (hO.keep0 ((Keeps.refl [] wr).alloc _)) _ rfl 1 _ ((rb1 (Blk.fresh _ _ _)).src Tryz.underlying26) (by unfold maxLen; omega) (by omega) (by have := hk.size; simp; omega) ?_; intro ao' c' w' hO' hk' hb')
      have hO2 := Own.of hO' (bys_append l [x]).symm
      go_roundw
      case rel => exact ⟨m / 128, ao', c', l ++ [x], by simp, by simp, by omega, by simpa using hl, hO2, (hk.alloc _).own hk' (hO.keep0 ((Keeps.refl [] wr).alloc _))⟩
      case measure => simp [intOf]; omega

theorem zigzag_lt' {k : Int} (h : (Lit.int .i64 k).wf = true) : zigzag k < 18446744073709551616 := by
  have := bounds_i64 h
  exact zigzag_lt (by omega) (by omega)

set_option maxRecDepth 100000 in
theorem putText (s : ByteArray) (w : World) (hs : s.size ≤ 1000000000) :
    Calls Tryz.prog 73 #[.string s] w fun e w' => ∃ ao c, e = .returned (.slice ao (uvarint s.size ++ s.data.toList).length c) ∧ Own w' w.heap.size ao c (uvarint s.size ++ s.data.toList) ∧ Keeps [] w w' := by
  obtain ⟨i, z, hi, hz, hsz, hby, hzc⟩ := infoB
  have hll := uvarint_length64 (x := s.size) (by omega)
  have hsl : s.data.toList.length = s.size := by rw [Array.length_toList]; rfl
  go_enter Tryz.func73, Tryz.ntmps73
  go_wp2_with fail
  refine (putUint s.size w (by omega)).mono ?_
  rintro e w1 ⟨ao, c, rfl, hO, hk⟩
  go_wp2_with (at_builtin; refine wpList_append_by _ rfl _ _ 26 9 rfl w.heap.size 5 i z 1 1 Tryz.underlying26 hi hz hsz hby hzc ao _ c _ rfl hO _ rfl s.size _ (Src.ofString _ Tryz.underlying9 s) (by unfold maxLen; omega) (by omega) hk.size ?_; intro ao' c' w' hO' hk' hb')
  have hO2 := Own.of hO' (bys_append _ s.data.toList).symm
  have hlen : (uvarint s.size).length + s.size = (uvarint s.size ++ s.data.toList).length := by simp [hsl]
  rw [hlen]
  go_ret
  exact ⟨ao', c', rfl, hO2, hk.own hk' hO⟩
end Go.Proofs.YtfgmbjdeimallaaGreatDoor
/- Sums of bytes: Sum of the program and of the document. -/

namespace Go.Proofs.YtfgmbjdeimallaaGreatDoor
open Go.RowKit Go.Lib

/-- one bit -/
def crc1 (s : Nat) : Nat := if s % 2 = 1 then (s / 2) ^^^ 3988292384 else s / 2
def crcN : Nat → Nat → Nat
  | 0, s => s
  | n + 1, s => crcN n (crc1 s)
def crcF (s : Nat) : List UInt8 → Nat
  | [] => s
  | b :: l => crcF (crcN 8 (s ^^^ b.toNat)) l
theorem crcF_nil (s : Nat) : crcF s [] = s := rfl
theorem crcF_cons (s : Nat) (b : UInt8) (l : List UInt8) : crcF s (b :: l) = crcF (crcN 8 (s ^^^ b.toNat)) l := rfl
/-- the sum of bytes -/
def crc (l : List UInt8) : Nat := 4294967295 - crcF 4294967295 l

theorem crc1_lt {s : Nat} (h : s < 4294967296) : crc1 s < 4294967296 := by
  unfold crc1
  split
  · exact Nat.xor_lt_two_pow (n := 32) (by omega) (by decide)
  · omega
theorem crcN_lt : ∀ (n : Nat) {s : Nat}, s < 4294967296 → crcN n s < 4294967296
  | 0, _, h => h
  | n + 1, _, h => crcN_lt n (crc1_lt h)
theorem xor_lt {s : Nat} (h : s < 4294967296) (b : UInt8) : s ^^^ b.toNat < 4294967296 := Nat.xor_lt_two_pow (n := 32) h (by have := b.toNat_lt; omega)
theorem crcF_lt : ∀ (l : List UInt8) {s : Nat}, s < 4294967296 → crcF s l < 4294967296
  | [], _, h => h
  | b :: l, _, h => crcF_lt l (crcN_lt 8 (xor_lt h b))

/-- what the code reckons for one bit -/
theorem crcStep (s : Nat) (h : s < 4294967296) : ∃ m v u : Nat, bits .and .u32 (s : Int) 1 = (m : Int) ∧ IntKind.u32.wrap (-(m : Int)) = (v : Int) ∧ bits .and .u32 3988292384 (v : Int) = (u : Int) ∧ bits .xor .u32 ((s : Int) / 2) (u : Int) = (crc1 s : Int) := by
  have h1 : bits .and .u32 (s : Int) 1 = ((s % 2 : Nat) : Int) := by
    have := u32_and_nat s 1 h (by decide)
    rw [nat_mask1] at this
    exact this
  have h4 : ((s : Int) / 2) = ((s / 2 : Nat) : Int) := by omega
  rcases Nat.mod_two_eq_zero_or_one s with e | e
  · refine ⟨0, 0, 0, by rw [h1, e], by decide, by decide, ?_⟩
    have := u32_xor_nat (s / 2) 0 (by omega) (by decide)
    rw [h4, this, Nat.xor_zero]
    unfold crc1
    rw [if_neg (by omega)]
  · refine ⟨1, 4294967295, 3988292384, by rw [h1, e], by decide, by decide, ?_⟩
    have := u32_xor_nat (s / 2) 3988292384 (by omega) (by decide)
    rw [h4]
    unfold crc1
    rw [if_pos e]
    exact this

theorem xor_ones32 (b : Nat) (hb : b < 2 ^ 32) : (2 ^ 32 - 1) ^^^ b = 2 ^ 32 - 1 - b := by
  apply Nat.eq_of_testBit_eq
  intro i
  rw [Nat.testBit_xor, Nat.testBit_two_pow_sub_one, show 2 ^ 32 - 1 - b = 2 ^ 32 - (b + 1) by omega, Nat.testBit_two_pow_sub_succ hb]
  by_cases hi : i < 32
  · simp [hi]
  · have : b.testBit i = false := Nat.testBit_lt_two_pow (Nat.lt_of_lt_of_le hb (Nat.pow_le_pow_right (by decide) (by omega)))
    simp [hi, this]
theorem crcEnd (l : List UInt8) : bits .xor .u32 IntKind.u32.max (crcF 4294967295 l : Int) = (crc l : Int) := by
  have h := crcF_lt l (s := 4294967295) (by decide)
  have e : IntKind.u32.max = ((2 ^ 32 - 1 : Nat) : Int) := by decide
  rw [e, u32_xor_nat _ _ (by decide) h, xor_ones32 _ h]
  rfl

set_option maxRecDepth 100000 in
set_option maxHeartbeats 8000000 in
theorem sum_any (ao : Option Addr) (c : Nat) (l : List UInt8) (w : World) (h : Rb w ao c l) :
    Calls Tryz.prog 55 #[.slice ao l.length c] w fun e w' => e = .returned (.int .u32 (crc l)) ∧ w' = w := by
  go_enter Tryz.func55, Tryz.ntmps55
  go_wp2_with fail
  go_loopw [3, 8] (fun v s wr => ∃ (k t : Nat), v = .int .u32 (t : Int) ∧ s = .int .i64 (k : Int) ∧ k ≤ l.length ∧ t < 4294967296 ∧ crcF t (l.drop k) = crcF 4294967295 l ∧ wr = w) (fun _ s _ => l.length - (intOf s).toNat)
  case atStart => exact ⟨0, 4294967295, rfl, rfl, by omega, by omega, by rw [List.drop_zero], rfl⟩
  case round =>
    obtain ⟨k, t, rfl, rfl, hk, ht, hr, rfl⟩ := hrel
    by_cases hkl : k = l.length
    · subst hkl
      rw [List.drop_length, crcF_nil] at hr
      have q := crcEnd l
      go_wp2_with fail
      go_ret
      exact ⟨rfl, rfl⟩
    have hlt2 : k < l.length := by omega
    obtain ⟨bb, o, rfl⟩ := h.at (by have := h.cap; omega)
    have hcell := h.cell _ rfl k _ (bys_at hlt2)
    simp only at hcell
    rw [List.drop_eq_getElem_cons hlt2, crcF_cons] at hr
    have hb := l[k].toNat_lt
    have hx := xor_lt ht l[k]
    generalize l[k].toNat = x at *
    have q1 : IntKind.u32.wrap (x : Int) = x := IntWalk.u32_in _ (by omega)
    have q2 := u32_xor_nat t x ht (by omega)
    generalize t ^^^ x = t1 at *
    have hlt3 : (k : Int) < l.length := by omega
    have s2 : IntKind.i64.wrap ((k : Int) + 1) = k + 1 := IntWalk.i64_in _ (by have := h.cap; have := h.most; unfold maxLen at this; omega)
    go_wp2_with fail
    go_loopw [3, 16] (fun v s wx => ∃ (j t : Nat), v = .int .u32 (t : Int) ∧ s = .int .i64 (j : Int) ∧ j ≤ 8 ∧ t < 4294967296 ∧ crcN (8 - j) t = crcN 8 t1 ∧ wx = wr) (fun _ s _ => 8 - (intOf s).toNat)
    case atStart => exact ⟨0, t1, rfl, rfl, by omega, hx, rfl, rfl⟩
    case round =>
      obtain ⟨j, t2, rfl, rfl, hj, ht2, hr2, rfl⟩ := hrel
      by_cases h8 : j = 8
      · subst h8
        rw [show 8 - 8 = 0 from rfl] at hr2
        change t2 = crcN 8 t1 at hr2
        rw [← hr2] at hr
        go_wp2_with fail
        go_roundw
        case rel => exact ⟨k + 1, t2, by simp, by simp, by omega, ht2, hr, by simp⟩
        case measure => simp [intOf]; omega
      have hj8 : (j : Int) < 8 := by omega
      have s3 : IntKind.i64.wrap ((j : Int) + 1) = j + 1 := IntWalk.i64_in _ (by omega)
      obtain ⟨m, v, u, c1, c2, c3, c4⟩ := crcStep t2 ht2
      have hr3 : crcN (8 - (j + 1)) (crc1 t2) = crcN 8 t1 := by
        rw [show 8 - j = (8 - (j + 1)) + 1 by omega] at hr2
        exact hr2
      go_wp2_with fail
      go_roundw
      case rel => exact ⟨j + 1, crc1 t2, by simp, by simp, by omega, crc1_lt ht2, hr3, by simp⟩
      case measure => simp [intOf]; omega
end Go.Proofs.YtfgmbjdeimallaaGreatDoor
