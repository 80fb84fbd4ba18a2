/- Numbers as bytes: PutUint, PutInt, PutText, of the program and of the document. -/
import Derived.Test.YtllcidpmdmacjaaDoorBy
import Derived.Lib.Varint
import Derived.Lib.Zigzag
import Derived.OpenShut

namespace Go.Proofs.YtllcidpmdmacjaaDoor
open Go.RowKit Go.Lib

theorem u8_wrap (m : Nat) : IntKind.u8.wrap (m : Int) = (m : Int) % 256 := by simp [IntKind.wrap, IntKind.bits, IntKind.signed]
theorem u8_or (m : Nat) : bits .or .u8 ((m : Int) % 256) 128 = (((m % 128 + 128).toUInt8.toNat : Nat) : Int) := by
  rw [u8_or128_any _ (by omega) (by omega)]
  have : (m % 128 + 128).toUInt8.toNat = m % 128 + 128 := by
    simp only [Nat.toUInt8, UInt8.toNat_ofNat']
    omega
  rw [this]
  omega
theorem u8_of (m : Nat) (h : m < 128) : (m : Int) % 256 = ((m.toUInt8.toNat : Nat) : Int) := by
  have : m.toUInt8.toNat = m := by
    simp only [Nat.toUInt8, UInt8.toNat_ofNat']
    omega
  rw [this]
  omega

set_option maxRecDepth 100000 in
set_option maxHeartbeats 4000000 in
theorem putUint (n : Nat) (w : World) (hn : n < 18446744073709551616) :
    Calls Tryd.prog 47 #[.int .u64 n] w fun e w' => ∃ ao c, e = .returned (.slice ao (uvarint n).length c) ∧ Own w' w.heap.size ao c (uvarint n) ∧ Keeps [] w w' := by
  obtain ⟨i, z, hi, hz, hsz, hby, hzc⟩ := infoB
  go_enter Tryd.func47, Tryd.ntmps47
  go_wp2_with fail
  go_loopw [0, 3] (fun v s wr => ∃ (m : Nat) (ao : Option Addr) (c : Nat) (l : List UInt8), v = .int .u64 (m : Int) ∧ s = .slice ao l.length c ∧ m ≤ n ∧ l ++ uvarint m = uvarint n ∧ Own wr w.heap.size ao c l ∧ Keeps [] w wr) (fun v _ _ => (intOf v).toNat)
  case atStart => exact ⟨n, none, 0, [], rfl, rfl, Nat.le_refl _, rfl, Own.nil _ _, Keeps.refl _ _⟩
  case round =>
    obtain ⟨m, ao, c, l, rfl, rfl, hmn, hl, hO, hk⟩ := hrel
    have hll : l.length ≤ 10 := by have := uvarint_length64 hn; rw [← hl] at this; simp at this; omega
    have k1 := u8_wrap m
    by_cases hm : m < 128
    · have hlt : ¬ ((128 : Int) ≤ (m : Int)) := by omega
      have k2 := u8_of m hm
      rw [uvarint_small hm] at hl
      generalize m.toUInt8 = x at *
      go_wp2_with (at_builtin; refine wpList_append_by _ rfl _ _ 34 34 rfl (w.heap.size) 5 i z 1 1 Tryd.underlying34 hi hz hsz hby hzc (ao) _ (c) _ rfl (hO.keep0 ((Keeps.refl [] wr).alloc _)) _ rfl 1 _ ((rb1 (Blk.fresh _ _ _)).src Tryd.underlying34) (by unfold maxLen; omega) (by omega) (by have := hk.size; simp; omega) ?_; intro ao' c' w' hO' hk' hb')
      have hO2 := Own.of hO' (bys_append l [x]).symm
      rw [hl] at hO2
      have hlen : l.length + 1 = (uvarint n).length := by rw [← hl]; simp
      rw [hlen]
      go_ret
      exact ⟨ao', c', rfl, hO2, (hk.alloc _).own hk' (hO.keep0 ((Keeps.refl [] wr).alloc _))⟩
    · have hlt : ((128 : Int) ≤ (m : Int)) := by omega
      have k2 := u8_or m
      rw [uvarint_big (by omega)] at hl
      generalize (m % 128 + 128).toUInt8 = x at *
      go_wp2_with (at_builtin; refine wpList_append_by _ rfl _ _ 34 34 rfl (w.heap.size) 5 i z 1 1 Tryd.underlying34 hi hz hsz hby hzc (ao) _ (c) _ rfl (hO.keep0 ((Keeps.refl [] wr).alloc _)) _ rfl 1 _ ((rb1 (Blk.fresh _ _ _)).src Tryd.underlying34) (by unfold maxLen; omega) (by omega) (by have := hk.size; simp; omega) ?_; intro ao' c' w' hO' hk' hb')
      have hO2 := Own.of hO' (bys_append l [x]).symm
      go_roundw
      case rel => exact ⟨m / 128, ao', c', l ++ [x], by simp, by simp, by omega, by simpa using hl, hO2, (hk.alloc _).own hk' (hO.keep0 ((Keeps.refl [] wr).alloc _))⟩
      case measure => simp [intOf]; omega

theorem zigzag_lt' {k : Int} (h : (Lit.int .i64 k).wf = true) : zigzag k < 18446744073709551616 := by
  have := bounds_i64 h
  exact zigzag_lt (by omega) (by omega)

set_option maxRecDepth 100000 in
theorem putInt (k : Int) (w : World) (hk : (Lit.int .i64 k).wf = true) :
    Calls Tryd.prog 49 #[.int .i64 k] w fun e w' => ∃ ao c, e = .returned (.slice ao (uvarint (zigzag k)).length c) ∧ Own w' w.heap.size ao c (uvarint (zigzag k)) ∧ Keeps [] w w' := by
  have hz := zigzag_lt' hk
  have hb := bounds_i64 hk
  have P := putUint (zigzag k) w hz
  by_cases h : 0 ≤ k
  · have e1 := zigzag_nonneg h
    have q1 : IntKind.u64.wrap k = k := IntWalk.u64_in _ (by omega)
    have q2 : IntKind.u64.wrap (k * 2) = k * 2 := IntWalk.u64_in _ (by omega)
    have q3 : k / 9223372036854775808 = 0 := by omega
    have q4 : bits .xor .u64 (k * 2) 0 = k * 2 := by
      have := bits_xor_u64_nat (zigzag k) 0 hz (by decide)
      rw [e1, Nat.xor_zero, e1] at this
      exact this
    rw [e1] at P
    go_enter Tryd.func49, Tryd.ntmps49
    go_wp2_with fail
    refine P.mono ?_
    rintro e w1 ⟨ao, c, rfl, hO, hk1⟩
    go_wp2_with fail
    go_ret
    exact ⟨ao, c, rfl, hO, hk1⟩
  · have q3 : k / 9223372036854775808 = -1 := by omega
    have q5 : IntKind.u64.wrap (-1) = 18446744073709551615 := by decide
    have q6 : bits .xor .u64 (IntKind.u64.wrap (IntKind.u64.wrap k * 2)) 18446744073709551615 = (zigzag k : Int) := by
      have h1 := zigzag_neg (x := k) (by omega) (by omega)
      have e1 : IntKind.u64.wrap (IntKind.u64.wrap k * 2) = (((2 * k + 18446744073709551616).toNat : Nat) : Int) := by
        rw [IntKind.wrap_u64, IntKind.wrap_u64]
        omega
      have e2 : IntKind.u64.max = ((18446744073709551615 : Nat) : Int) := by decide
      rw [e1, e2, bits_xor_u64_nat _ _ (by decide) (by omega)] at h1
      rw [e1, show (18446744073709551615 : Int) = ((18446744073709551615 : Nat) : Int) by rfl, bits_xor_u64_nat _ _ (by omega) (by decide), Nat.xor_comm]
      exact h1
    generalize hX : IntKind.u64.wrap (IntKind.u64.wrap k * 2) = X at q6
    go_enter Tryd.func49, Tryd.ntmps49
    go_wp2_with fail
    refine P.mono ?_
    rintro e w1 ⟨ao, c, rfl, hO, hk1⟩
    go_wp2_with fail
    go_ret
    exact ⟨ao, c, rfl, hO, hk1⟩

set_option maxRecDepth 100000 in
theorem putText (s : ByteArray) (w : World) (hs : s.size ≤ 1000000000) :
    Calls Tryd.prog 27 #[.string s] w fun e w' => ∃ ao c, e = .returned (.slice ao (uvarint s.size ++ s.data.toList).length c) ∧ Own w' w.heap.size ao c (uvarint s.size ++ s.data.toList) ∧ Keeps [] w w' := by
  obtain ⟨i, z, hi, hz, hsz, hby, hzc⟩ := infoB
  have hll := uvarint_length64 (x := s.size) (by omega)
  have hsl : s.data.toList.length = s.size := by rw [Array.length_toList]; rfl
  go_enter Tryd.func27, Tryd.ntmps27
  go_wp2_with fail
  refine (putUint s.size w (by omega)).mono ?_
  rintro e w1 ⟨ao, c, rfl, hO, hk⟩
  go_wp2_with (at_builtin; refine wpList_append_by _ rfl _ _ 34 9 rfl w.heap.size 5 i z 1 1 Tryd.underlying34 hi hz hsz hby hzc ao _ c _ rfl hO _ rfl s.size _ (Src.ofString _ Tryd.underlying9 s) (by unfold maxLen; omega) (by omega) hk.size ?_; intro ao' c' w' hO' hk' hb')
  have hO2 := Own.of hO' (bys_append _ s.data.toList).symm
  have hlen : (uvarint s.size).length + s.size = (uvarint s.size ++ s.data.toList).length := by simp [hsl]
  rw [hlen]
  go_ret
  exact ⟨ao', c', rfl, hO2, hk.own hk' hO⟩
end Go.Proofs.YtllcidpmdmacjaaDoor
