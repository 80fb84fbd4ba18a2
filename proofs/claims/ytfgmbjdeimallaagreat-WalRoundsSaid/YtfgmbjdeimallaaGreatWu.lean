/- Numbers as bytes: PutUint, PutInt, PutText, of the program and of the document. -/
import Derived.Test.YtfgmbjdeimallaaGreatBy
import Derived.Lib.Varint
import Derived.Lib.Zigzag
import Derived.OpenShut

namespace Go.Proofs.YtfgmbjdeimallaaGreat
open Go.RowKit Go.Lib

theorem u8_wrap (m : Nat) : IntKind.u8.wrap (m : Int) = (m : Int) % 256 := by simp [IntKind.wrap, IntKind.bits, IntKind.signed]
theorem u8_or (m : Nat) : bits .or .u8 ((m : Int) % 256) 128 = (((m % 128 + 128).toUInt8.toNat : Nat) : Int) := by
  rw [u8_or128_any _ (by omega) (by omega)]
  have : (m % 128 + 128).toUInt8.toNat = m % 128 + 128 := by
    simp only [Nat.toUInt8, UInt8.toNat_ofNat']
    omega
  rw [this]
  omega
theorem u8_of (m : Nat) (h : m < 128) : (m : Int) % 256 = ((m.toUInt8.toNat : Nat) : Int) := by
  have : m.toUInt8.toNat = m := by
    simp only [Nat.toUInt8, UInt8.toNat_ofNat']
    omega
  rw [this]
  omega

set_option maxRecDepth 100000 in
set_option maxHeartbeats 4000000 in
theorem putUint (n : Nat) (w : World) (hn : n < 18446744073709551616) :
    Calls Tryz.prog 49 #[.int .u64 n] w fun e w' => ∃ ao c, e = .returned (.slice ao (uvarint n).length c) ∧ Own w' w.heap.size ao c (uvarint n) ∧ Keeps [] w w' := by
  obtain ⟨i, z, hi, hz, hsz, hby, hzc⟩ := infoB
  go_enter Tryz.func49, Tryz.ntmps49
  go_wp2_with fail
  go_loopw [0, 3] (fun v s wr => ∃ (m : Nat) (ao : Option Addr) (c : Nat) (l : List UInt8), v = .int .u64 (m : Int) ∧ s = .slice ao l.length c ∧ m ≤ n ∧ l ++ uvarint m = uvarint n ∧ Own wr w.heap.size ao c l ∧ Keeps [] w wr) (fun v _ _ => (intOf v).toNat)
  case atStart => exact ⟨n, none, 0, [], rfl, rfl, Nat.le_refl _, rfl, Own.nil _ _, Keeps.refl _ _⟩
  case round =>
    obtain ⟨m, ao, c, l, rfl, rfl, hmn, hl, hO, hk⟩ := hrel
    have hll : l.length ≤ 10 := by have := uvarint_length64 hn; rw [← hl] at this; simp at this; omega
    have k1 := u8_wrap m
    by_cases hm : m < 128
    · have hlt : ¬ ((128 : Int) ≤ (m : Int)) := by omega
      have k2 := u8_of m hm
      rw [uvarint_small hm] at hl
      generalize m.toUInt8 = x at *
      go_wp2_with (at_builtin; refine wpList_append_by _ rfl _ _ 22 22 rfl (w.heap.size) 5 i z 1 1 Tryz.underlying22 hi hz hsz hby hzc (ao) _ (c) _ rfl (hO.keep0 ((Keeps.refl [] wr).alloc _)) _ rfl 1 _ ((rb1 (Blk.fresh _ _ _)).src Tryz.underlying22) (by unfold maxLen; omega) (by omega) (by have := hk.size; simp; omega) ?_; intro ao' c' w' hO' hk' hb')
      have hO2 := Own.of hO' (bys_append l [x]).symm
      rw [hl] at hO2
      have hlen : l.length + 1 = (uvarint n).length := by rw [← hl]; simp
      rw [hlen]
      go_ret
      exact ⟨ao', c', rfl, hO2, (hk.alloc _).own hk' (hO.keep0 ((Keeps.refl [] wr).alloc _))⟩
    · have hlt : ((128 : Int) ≤ (m : Int)) := by omega
      have k2 := u8_or m
      rw [uvarint_big (by omega)] at hl
      generalize (m % 128 + 128).toUInt8 = x at *
      go_wp2_with (at_builtin; refine wpList_append_by _ rfl _ _ 22 22 rfl (w.heap.size) 5 i z 1 1 Tryz.underlying22 hi hz hsz hby hzc (ao) _ (c) _ rfl (hO.keep0 ((Keeps.refl [] wr).alloc _)) _ rfl 1 _ ((rb1 (Blk.fresh _ _ _)).src Tryz.underlying22) (by unfold maxLen; omega) (by omega) (by have := hk.size; simp; omega) ?_; intro ao' c' w' hO' hk' hb')
      have hO2 := Own.of hO' (bys_append l [x]).symm
      go_roundw
      case rel => exact ⟨m / 128, ao', c', l ++ [x], by simp, by simp, by omega, by simpa using hl, hO2, (hk.alloc _).own hk' (hO.keep0 ((Keeps.refl [] wr).alloc _))⟩
      case measure => simp [intOf]; omega

theorem zigzag_lt' {k : Int} (h : (Lit.int .i64 k).wf = true) : zigzag k < 18446744073709551616 := by
  have := bounds_i64 h
  exact zigzag_lt (by omega) (by omega)

set_option maxRecDepth 100000 in
theorem putText (s : ByteArray) (w : World) (hs : s.size ≤ 1000000000) :
    Calls Tryz.prog 63 #[.string s] w fun e w' => ∃ ao c, e = .returned (.slice ao (uvarint s.size ++ s.data.toList).length c) ∧ Own w' w.heap.size ao c (uvarint s.size ++ s.data.toList) ∧ Keeps [] w w' := by
  obtain ⟨i, z, hi, hz, hsz, hby, hzc⟩ := infoB
  have hll := uvarint_length64 (x := s.size) (by omega)
  have hsl : s.data.toList.length = s.size := by rw [Array.length_toList]; rfl
  go_enter Tryz.func63, Tryz.ntmps63
  go_wp2_with fail
  refine (putUint s.size w (by omega)).mono ?_
  rintro e w1 ⟨ao, c, rfl, hO, hk⟩
  go_wp2_with (at_builtin; refine wpList_append_by _ rfl _ _ 22 9 rfl w.heap.size 5 i z 1 1 Tryz.underlying22 hi hz hsz hby hzc ao _ c _ rfl hO _ rfl s.size _ (Src.ofString _ Tryz.underlying9 s) (by unfold maxLen; omega) (by omega) hk.size ?_; intro ao' c' w' hO' hk' hb')
  have hO2 := Own.of hO' (bys_append _ s.data.toList).symm
  have hlen : (uvarint s.size).length + s.size = (uvarint s.size ++ s.data.toList).length := by simp [hsl]
  rw [hlen]
  go_ret
  exact ⟨ao', c', rfl, hO2, hk.own hk' hO⟩
end Go.Proofs.YtfgmbjdeimallaaGreat
