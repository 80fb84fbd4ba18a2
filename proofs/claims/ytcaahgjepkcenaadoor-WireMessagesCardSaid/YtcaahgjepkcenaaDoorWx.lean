/- The document's numbers, integers, texts and sums as bytes; bytes held against each other. -/
import Derived.Test.YtcaahgjepkcenaaDoorWu
import Derived.Test.YtcaahgjepkcenaaDoorWs
import Derived.Laws.BytesString
import Derived.Laws.BytesArg

namespace Go.Proofs.YtcaahgjepkcenaaDoor
open Go.RowKit Go.Lib

set_option maxRecDepth 100000 in
set_option maxHeartbeats 4000000 in
theorem putUintR (n : Nat) (w : World) (hn : n < 18446744073709551616) :
    Calls Tryd.prog 16 #[.int .u64 n] w fun e w' => ∃ ao c, e = .returned (.slice ao (uvarint n).length c) ∧ Own w' w.heap.size ao c (uvarint n) ∧ Keeps [] w w' := by
  obtain ⟨i, z, hi, hz, hsz, hby, hzc⟩ := infoB
  go_enter Tryd.func16, Tryd.ntmps16
  go_wp2_with fail
  go_loopw [0, 3] (fun v s wr => ∃ (m : Nat) (ao : Option Addr) (c : Nat) (l : List UInt8), v = .int .u64 (m : Int) ∧ s = .slice ao l.length c ∧ m ≤ n ∧ l ++ uvarint m = uvarint n ∧ Own wr w.heap.size ao c l ∧ Keeps [] w wr) (fun v _ _ => (intOf v).toNat)
  case atStart => exact ⟨n, none, 0, [], rfl, rfl, Nat.le_refl _, rfl, Own.nil _ _, Keeps.refl _ _⟩
  case round =>
    obtain ⟨m, ao, c, l, rfl, rfl, hmn, hl, hO, hk⟩ := hrel
    have hll : l.length ≤ 10 := by have := uvarint_length64 hn; rw [← hl] at this; simp at this; omega
    by_cases hm : m < 128
    · have hlt : ¬ ((128 : Int) ≤ (m : Int)) := by omega
      have k1 := u8_wrap m
      have k2 := u8_of m hm
      rw [uvarint_small hm] at hl
      generalize m.toUInt8 = x at *
      go_wp2_with (at_builtin; refine wpList_append_by _ rfl _ _ 24 24 rfl (w.heap.size) 5 i z 1 1 Tryd.underlying24 hi hz hsz hby hzc (ao) _ (c) _ rfl (hO.keep0 ((Keeps.refl [] wr).alloc _)) _ rfl 1 _ ((rb1 (Blk.fresh _ _ _)).src Tryd.underlying24) (by unfold maxLen; omega) (by omega) (by have := hk.size; simp; omega) ?_; intro ao' c' w' hO' hk' hb')
      have hO2 := Own.of hO' (bys_append l [x]).symm
      rw [hl] at hO2
      have hlen : l.length + 1 = (uvarint n).length := by rw [← hl]; simp
      rw [hlen]
      go_ret
      exact ⟨ao', c', rfl, hO2, (hk.alloc _).own hk' (hO.keep0 ((Keeps.refl [] wr).alloc _))⟩
    · have hlt : ((128 : Int) ≤ (m : Int)) := by omega
      have k1 : IntKind.u8.wrap ((m : Int) % 128) = (m : Int) % 128 := by simp [IntKind.wrap, IntKind.bits, IntKind.signed]; omega
      have k2 : IntKind.u8.wrap ((m : Int) % 128 + 128) = (((m % 128 + 128).toUInt8.toNat : Nat) : Int) := by
        have : (m % 128 + 128).toUInt8.toNat = m % 128 + 128 := by
          simp only [Nat.toUInt8, UInt8.toNat_ofNat']
          omega
        rw [this]
        simp [IntKind.wrap, IntKind.bits, IntKind.signed]
        omega
      rw [uvarint_big (by omega)] at hl
      generalize (m % 128 + 128).toUInt8 = x at *
      go_wp2_with (at_builtin; refine wpList_append_by _ rfl _ _ 24 24 rfl (w.heap.size) 5 i z 1 1 Tryd.underlying24 hi hz hsz hby hzc (ao) _ (c) _ rfl (hO.keep0 ((Keeps.refl [] wr).alloc _)) _ rfl 1 _ ((rb1 (Blk.fresh _ _ _)).src Tryd.underlying24) (by unfold maxLen; omega) (by omega) (by have := hk.size; simp; omega) ?_; intro ao' c' w' hO' hk' hb')
      have hO2 := Own.of hO' (bys_append l [x]).symm
      go_roundw
      case rel => exact ⟨m / 128, ao', c', l ++ [x], by simp, by simp, by omega, by simpa using hl, hO2, (hk.alloc _).own hk' (hO.keep0 ((Keeps.refl [] wr).alloc _))⟩
      case measure => simp [intOf]; omega

set_option maxRecDepth 100000 in
theorem putIntR (k : Int) (w : World) (hk : (Lit.int .i64 k).wf = true) :
    Calls Tryd.prog 17 #[.int .i64 k] w fun e w' => ∃ ao c, e = .returned (.slice ao (uvarint (zigzag k)).length c) ∧ Own w' w.heap.size ao c (uvarint (zigzag k)) ∧ Keeps [] w w' := by
  have hz := zigzag_lt' hk
  have hb := bounds_i64 hk
  have P := putUintR (zigzag k) w hz
  by_cases h : 0 ≤ k
  · have e1 := zigzag_nonneg h
    have q0 : ¬ (k < 0) := by omega
    have q1 : IntKind.u64.wrap k = k := IntWalk.u64_in _ (by omega)
    have q2 : IntKind.u64.wrap (2 * k) = (zigzag k : Int) := by rw [e1, Int.mul_comm]; exact IntWalk.u64_in _ (by omega)
    clear e1
    go_enter Tryd.func17, Tryd.ntmps17
    go_wp2_with fail
    refine P.mono ?_
    rintro e w1 ⟨ao, c, rfl, hO, hk1⟩
    go_wp2_with fail
    go_ret
    exact ⟨ao, c, rfl, hO, hk1⟩
  · have q0 : k < 0 := by omega
    have e1 : ((zigzag k : Nat) : Int) = -2 * k - 1 := by unfold zigzag; rw [if_neg h]; omega
    have q1 : IntKind.i64.wrap (k + 1) = k + 1 := IntWalk.i64_in _ (by omega)
    have q2 : IntKind.i64.wrap (-(k + 1)) = -(k + 1) := IntWalk.i64_in _ (by omega)
    have q3 : IntKind.u64.wrap (-(k + 1)) = -(k + 1) := IntWalk.u64_in _ (by omega)
    have q4 : IntKind.u64.wrap (2 * -(k + 1)) = 2 * -(k + 1) := IntWalk.u64_in _ (by omega)
    have q5 : IntKind.u64.wrap (2 * -(k + 1) + 1) = (zigzag k : Int) := by rw [e1, IntWalk.u64_in _ (by omega)]; omega
    clear e1
    go_enter Tryd.func17, Tryd.ntmps17
    go_wp2_with fail
    refine P.mono ?_
    rintro e w1 ⟨ao, c, rfl, hO, hk1⟩
    go_wp2_with fail
    go_ret
    exact ⟨ao, c, rfl, hO, hk1⟩

set_option maxRecDepth 100000 in
theorem putTextR (s : ByteArray) (w : World) (hs : s.size ≤ 1000000000) :
    Calls Tryd.prog 18 #[.string s] w fun e w' => ∃ ao c, e = .returned (.slice ao (uvarint s.size ++ s.data.toList).length c) ∧ Own w' w.heap.size ao c (uvarint s.size ++ s.data.toList) ∧ Keeps [] w w' := by
  obtain ⟨i, z, hi, hz, hsz, hby, hzc⟩ := infoB
  have hll := uvarint_length64 (x := s.size) (by omega)
  have hsl : s.data.toList.length = s.size := by rw [Array.length_toList]; rfl
  go_enter Tryd.func18, Tryd.ntmps18
  go_wp2_with fail
  refine (putUintR s.size w (by omega)).mono ?_
  rintro e w1 ⟨ao, c, rfl, hO, hk⟩
  go_wp2_with (at_builtin; refine wpList_append_by _ rfl _ _ 24 9 rfl w.heap.size 5 i z 1 1 Tryd.underlying24 hi hz hsz hby hzc ao _ c _ rfl hO _ rfl s.size _ (Src.ofString _ Tryd.underlying9 s) (by unfold maxLen; omega) (by omega) hk.size ?_; intro ao' c' w' hO' hk' hb')
  have hO2 := Own.of hO' (bys_append _ s.data.toList).symm
  have hlen : (uvarint s.size).length + s.size = (uvarint s.size ++ s.data.toList).length := by simp [hsl]
  rw [hlen]
  go_ret
  exact ⟨ao', c', rfl, hO2, hk.own hk' hO⟩

set_option maxRecDepth 100000 in
set_option maxHeartbeats 8000000 in
theorem sumR_any (ao : Option Addr) (c : Nat) (l : List UInt8) (w : World) (h : Rb w ao c l) :
    Calls Tryd.prog 30 #[.slice ao l.length c] w fun e w' => e = .returned (.int .u32 (crc l)) ∧ w' = w := by
  go_enter Tryd.func30, Tryd.ntmps30
  go_wp2_with fail
  go_loopw [3, 4] (fun v s wr => ∃ (k t : Nat), v = .int .u32 (t : Int) ∧ s = .int .i64 (k : Int) ∧ k ≤ l.length ∧ t < 4294967296 ∧ crcF t (l.drop k) = crcF 4294967295 l ∧ wr = w) (fun _ s _ => l.length - (intOf s).toNat)
  case atStart => exact ⟨0, 4294967295, rfl, rfl, by omega, by omega, by rw [List.drop_zero], rfl⟩
  case round =>
    obtain ⟨k, t, rfl, rfl, hk, ht, hr, rfl⟩ := hrel
    by_cases hkl : k = l.length
    · subst hkl
      rw [List.drop_length, crcF_nil] at hr
      have q := crcEnd l
      go_wp2_with fail
      go_ret
      exact ⟨rfl, rfl⟩
    have hlt2 : k < l.length := by omega
    obtain ⟨bb, o, rfl⟩ := h.at (by have := h.cap; omega)
    have hcell := h.cell _ rfl k _ (bys_at hlt2)
    simp only at hcell
    rw [List.drop_eq_getElem_cons hlt2, crcF_cons] at hr
    have hb := l[k].toNat_lt
    have hx := xor_lt ht l[k]
    generalize l[k].toNat = x at *
    have q1 : IntKind.u32.wrap (x : Int) = x := IntWalk.u32_in _ (by omega)
    have q2 := u32_xor_nat t x ht (by omega)
    generalize t ^^^ x = t1 at *
    have hlt3 : (k : Int) < l.length := by omega
    have s2 : IntKind.i64.wrap ((k : Int) + 1) = k + 1 := IntWalk.i64_in _ (by have := h.cap; have := h.most; unfold maxLen at this; omega)
    go_wp2_with fail
    go_loopw [3, 5] (fun v s wx => ∃ (j t : Nat), v = .int .u32 (t : Int) ∧ s = .int .i64 (j : Int) ∧ j ≤ 8 ∧ t < 4294967296 ∧ crcN (8 - j) t = crcN 8 t1 ∧ wx = wr) (fun _ s _ => 8 - (intOf s).toNat)
    case atStart => exact ⟨0, t1, rfl, rfl, by omega, hx, rfl, rfl⟩
    case round =>
      obtain ⟨j, t2, rfl, rfl, hj, ht2, hr2, rfl⟩ := hrel
      by_cases h8 : j = 8
      · subst h8
        rw [show 8 - 8 = 0 from rfl] at hr2
        change t2 = crcN 8 t1 at hr2
        rw [← hr2] at hr
        go_wp2_with fail
        go_roundw
        case rel => exact ⟨k + 1, t2, by simp, by simp, by omega, ht2, hr, by simp⟩
        case measure => simp [intOf]; omega
      have hj8 : (j : Int) < 8 := by omega
      have s3 : IntKind.i64.wrap ((j : Int) + 1) = j + 1 := IntWalk.i64_in _ (by omega)
      have hr3 : crcN (8 - (j + 1)) (crc1 t2) = crcN 8 t1 := by
        rw [show 8 - j = (8 - (j + 1)) + 1 by omega] at hr2
        exact hr2
      have hl1 := crc1_lt ht2
      rcases Nat.mod_two_eq_zero_or_one t2 with e | e
      · have n1 : ((t2 : Int) % 2) = 0 := by omega
        have hc : crc1 t2 = t2 / 2 := by unfold crc1; rw [if_neg (by omega)]
        rw [hc] at hr3 hl1
        go_wp2_with fail
        go_roundw
        case rel => exact ⟨j + 1, t2 / 2, by simp, by simp, by omega, hl1, hr3, by simp⟩
        case measure => simp [intOf]; omega
      · have n1 : ((t2 : Int) % 2) = 1 := by omega
        have hc : bits .xor .u32 ((t2 : Int) / 2) 3988292384 = (crc1 t2 : Int) := by
          have := u32_xor_nat (t2 / 2) 3988292384 (by omega) (by decide)
          unfold crc1
          rw [if_pos e, ← this]
          simp
        go_wp2_with fail
        go_roundw
        case rel => exact ⟨j + 1, crc1 t2, by simp, by simp, by omega, hl1, hr3, by simp⟩
        case measure => simp [intOf]; omega

theorem strOf_bys (l : List UInt8) : strOfNums (l.map fun b => ((b.toNat : Nat) : Int)) = ⟨l.toArray⟩ := by
  unfold strOfNums
  congr 1
  simp [List.map_map, Function.comp_def]

/-- bytes as a string -/
theorem run_text {w : World} {ao : Option Addr} {c : Nat} {l : List UInt8} (h : Rb w ao c l) (src dst : TypeId) (hs : Tryd.prog.underlying src = some (.slice 5)) (hd : Tryd.prog.underlying dst = some .string) :
    (convert src dst (.slice ao l.length c)).run Tryd.prog w = .ok (.string ⟨l.toArray⟩) w := by
  cases ao with
  | none =>
    obtain rfl := h.nil rfl
    have hl : l.length = 0 := by have := h.cap; omega
    obtain rfl : l = [] := List.eq_nil_of_length_eq_zero hl
    exact run_convert_bytes_nil w src _ hs Tryd.underlying5 0 0 dst hd
  | some ad =>
    rcases Nat.eq_zero_or_pos l.length with h0 | hpos
    · obtain rfl : l = [] := List.eq_nil_of_length_eq_zero h0
      rw [run_convert_bytes_string w src dst _ _ _ c hs Tryd.underlying5 hd]
      exact run_bytesToString w ad 0 c [] (by simp [loadCells, loadCellsFrom])
    have hsp := h.spot (by have := h.cap; omega) _ rfl
    obtain ⟨b, o, s⟩ := ad
    simp only at hsp
    subst hsp
    have := run_convert_bytes_arg w src _ hs Tryd.underlying5 b o l.length c (l.map fun b => ((b.toNat : Nat) : Int)) (by simp) (fun i hi => by
      have h1 := h.cell _ rfl i _ (bys_at hi)
      simp only at h1
      rw [h1]
      simp [List.getD, hi]) dst hd
    rw [strOf_bys] at this
    exact this

theorem str_eq (l m : List UInt8) : ((⟨l.toArray⟩ : ByteArray) = ⟨m.toArray⟩) ↔ l = m := by
  constructor
  · intro h
    have h2 := congrArg (fun x : ByteArray => x.data.toList) h
    simpa using h2
  · rintro rfl; rfl

set_option maxRecDepth 100000 in
theorem bytes_any (ao bo : Option Addr) (c d : Nat) (l m : List UInt8) (w : World) (h : Rb w ao c l) (h' : Rb w bo d m) :
    Calls Tryd.prog 15 #[.slice ao l.length c, .slice bo m.length d] w fun e w' => e = .returned (.bool (l == m)) ∧ w' = w := by
  have r1 := run_text h 24 9 Tryd.underlying24 Tryd.underlying9
  have r2 := run_text h' 24 9 Tryd.underlying24 Tryd.underlying9
  go_enter Tryd.func15, Tryd.ntmps15
  go_wp2_with fail
  go_ret
  exact ⟨rfl, rfl⟩
end Go.Proofs.YtcaahgjepkcenaaDoor
