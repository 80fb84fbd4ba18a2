/- The document's numbers, integers, texts and sums as bytes; bytes held against each other. -/
import Derived.Test.YtfgmbjdeimallaaGreatDoorWuZ
import Derived.Laws.BytesString
import Derived.Laws.BytesArg

namespace Go.Proofs.YtfgmbjdeimallaaGreatDoor
open Go.RowKit Go.Lib

set_option maxRecDepth 100000 in
set_option maxHeartbeats 4000000 in
theorem putUintR (n : Nat) (w : World) (hn : n < 18446744073709551616) :
    Calls Tryz.prog 67 #[.int .u64 n] w fun e w' => ∃ ao c, e = .returned (.slice ao (uvarint n).length c) ∧ Own w' w.heap.size ao c (uvarint n) ∧ Keeps [] w w' := by
  obtain ⟨i, z, hi, hz, hsz, hby, hzc⟩ := infoB
  go_enter Tryz.func67, Tryz.ntmps67
  go_wp2_with fail
  go_loopw [0, 3] (fun v s wr => ∃ (m : Nat) (ao : Option Addr) (c : Nat) (l : List UInt8), v = .int .u64 (m : Int) ∧ s = .slice ao l.length c ∧ m ≤ n ∧ l ++ uvarint m = uvarint n ∧ Own wr w.heap.size ao c l ∧ Keeps [] w wr) (fun v _ _ => (intOf v).toNat)
  case atStart => exact ⟨n, none, 0, [], rfl, rfl, Nat.le_refl _, rfl, Own.nil _ _, Keeps.refl _ _⟩
  case round =>
    obtain ⟨m, ao, c, l, rfl, rfl, hmn, hl, hO, hk⟩ := hrel
    have hll : l.length ≤ 10 := by have := uvarint_length64 hn; rw [← hl] at this; simp at this; omega
    by_cases hm : m < 128
    · have hlt : ¬ ((128 : Int) ≤ (m : Int)) := by omega
      have k1 := u8_wrap m
      have k2 := u8_of m hm
      rw [uvarint_small hm] at hl
      generalize m.toUInt8 = x at *
      go_wp2_with (at_builtin; refine wpList_append_by _ rfl _ _ 26 26 rfl (w.heap.size) 5 i z 1 1 Tryz.underlying26 hi hz hsz hby hzc (ao) _ (c) _ rfl (hO.keep0 ((Keeps.refl [] wr).alloc _)) _ rfl 1 _ ((rb1 (Blk.fresh _ _ _)).src Tryz.underlying26) (by unfold maxLen; omega) (by omega) (by have := hk.size; simp; omega) ?_; intro ao' c' w' hO' hk' hb')
      have hO2 := Own.of hO' (bys_append l [x]).symm
      rw [hl] at hO2
      have hlen : l.length + 1 = (uvarint n).length := by rw [← hl]; simp
      rw [hlen]
      go_ret
      exact ⟨ao', c', rfl, hO2, (hk.alloc _).own hk' (hO.keep0 ((Keeps.refl [] wr).alloc _))⟩
    · have hlt : ((128 : Int) ≤ (m : Int)) := by omega
      have k1 : IntKind.u8.wrap ((m : Int) % 128) = (m : Int) % 128 := by simp [IntKind.wrap, IntKind.bits, IntKind.signed]; omega
      have k2 : IntKind.u8.wrap ((m : Int) % 128 + 128) = (((m % 128 + 128).toUInt8.toNat : Nat) : Int) := by
        have : (m % 128 + 128).toUInt8.toNat = m % 128 + 128 := by
          simp only [Nat.toUInt8, UInt8.toNat_ofNat']
          omega
        rw [this]
        simp [IntKind.wrap, IntKind.bits, IntKind.signed]
        omega
      rw [uvarint_big (by omega)] at hl
      generalize (m % 128 + 128).toUInt8 = x at *
      go_wp2_with (at_builtin; refine wpList_append_by _ rfl _ _ 26 26 rfl (w.heap.size) 5 i z 1 1 Tryz.underlying26 hi hz hsz hby hzc (ao) _ (c) _ rfl (hO.keep0 ((Keeps.refl [] wr).alloc _)) _ rfl 1 _ ((rb1 (Blk.fresh _ _ _)).src Tryz.underlying26) (by unfold maxLen; omega) (by omega) (by have := hk.size; simp; omega) ?_; intro ao' c' w' hO' hk' hb')
      have hO2 := Own.of hO' (bys_append l [x]).symm
      go_roundw
      case rel => exact ⟨m / 128, ao', c', l ++ [x], by simp, by simp, by omega, by simpa using hl, hO2, (hk.alloc _).own hk' (hO.keep0 ((Keeps.refl [] wr).alloc _))⟩
      case measure => simp [intOf]; omega

set_option maxRecDepth 100000 in
theorem putTextR (s : ByteArray) (w : World) (hs : s.size ≤ 1000000000) :
    Calls Tryz.prog 68 #[.string s] w fun e w' => ∃ ao c, e = .returned (.slice ao (uvarint s.size ++ s.data.toList).length c) ∧ Own w' w.heap.size ao c (uvarint s.size ++ s.data.toList) ∧ Keeps [] w w' := by
  obtain ⟨i, z, hi, hz, hsz, hby, hzc⟩ := infoB
  have hll := uvarint_length64 (x := s.size) (by omega)
  have hsl : s.data.toList.length = s.size := by rw [Array.length_toList]; rfl
  go_enter Tryz.func68, Tryz.ntmps68
  go_wp2_with fail
  refine (putUintR s.size w (by omega)).mono ?_
  rintro e w1 ⟨ao, c, rfl, hO, hk⟩
  go_wp2_with (at_builtin; refine wpList_append_by _ rfl _ _ 26 9 rfl w.heap.size 5 i z 1 1 Tryz.underlying26 hi hz hsz hby hzc ao _ c _ rfl hO _ rfl s.size _ (Src.ofString _ Tryz.underlying9 s) (by unfold maxLen; omega) (by omega) hk.size ?_; intro ao' c' w' hO' hk' hb')
  have hO2 := Own.of hO' (bys_append _ s.data.toList).symm
  have hlen : (uvarint s.size).length + s.size = (uvarint s.size ++ s.data.toList).length := by simp [hsl]
  rw [hlen]
  go_ret
  exact ⟨ao', c', rfl, hO2, hk.own hk' hO⟩

theorem strOf_bys (l : List UInt8) : strOfNums (l.map fun b => ((b.toNat : Nat) : Int)) = ⟨l.toArray⟩ := by
  unfold strOfNums
  congr 1
  simp [List.map_map, Function.comp_def]

/-- bytes as a string -/
theorem run_text {w : World} {ao : Option Addr} {c : Nat} {l : List UInt8} (h : Rb w ao c l) (src dst : TypeId) (hs : Tryz.prog.underlying src = some (.slice 5)) (hd : Tryz.prog.underlying dst = some .string) :
    (convert src dst (.slice ao l.length c)).run Tryz.prog w = .ok (.string ⟨l.toArray⟩) w := by
  cases ao with
  | none =>
    obtain rfl := h.nil rfl
    have hl : l.length = 0 := by have := h.cap; omega
    obtain rfl : l = [] := List.eq_nil_of_length_eq_zero hl
    exact run_convert_bytes_nil w src _ hs Tryz.underlying5 0 0 dst hd
  | some ad =>
    rcases Nat.eq_zero_or_pos l.length with h0 | hpos
    · obtain rfl : l = [] := List.eq_nil_of_length_eq_zero h0
      rw [run_convert_bytes_string w src dst _ _ _ c hs Tryz.underlying5 hd]
      exact run_bytesToString w ad 0 c [] (by simp [loadCells, loadCellsFrom])
    have hsp := h.spot (by have := h.cap; omega) _ rfl
    obtain ⟨b, o, s⟩ := ad
    simp only at hsp
    subst hsp
    have := run_convert_bytes_arg w src _ hs Tryz.underlying5 b o l.length c (l.map fun b => ((b.toNat : Nat) : Int)) (by simp) (fun i hi => by
      have h1 := h.cell _ rfl i _ (bys_at hi)
      simp only at h1
      rw [h1]
      simp [List.getD, hi]) dst hd
    rw [strOf_bys] at this
    exact this

theorem str_eq (l m : List UInt8) : ((⟨l.toArray⟩ : ByteArray) = ⟨m.toArray⟩) ↔ l = m := by
  constructor
  · intro h
    have h2 := congrArg (fun x : ByteArray => x.data.toList) h
    simpa using h2
  · rintro rfl; rfl

end Go.Proofs.YtfgmbjdeimallaaGreatDoor
