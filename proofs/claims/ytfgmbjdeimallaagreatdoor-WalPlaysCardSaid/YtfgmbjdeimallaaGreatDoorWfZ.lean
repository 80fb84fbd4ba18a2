/- Texts read from bytes: Text. -/
import Derived.Test.YtfgmbjdeimallaaGreatDoorWoZ
import Derived.Test.YtfgmbjdeimallaaGreatDoorEf

namespace Go.Proofs.YtfgmbjdeimallaaGreatDoor
open Go.RowKit Go.Lib

/-- what Text tells -/
def rdT (l : List UInt8) : List UInt8 × Nat × Nat :=
  if (rdU 0 0 l).2.2 ≠ 0 then ([], 0, (rdU 0 0 l).2.2) else
  if 2000 < (rdU 0 0 l).1 then ([], 0, 20) else
  if l.length - (rdU 0 0 l).2.1 < (rdU 0 0 l).1 then ([], 0, 22) else
  ((l.drop (rdU 0 0 l).2.1).take (rdU 0 0 l).1, (rdU 0 0 l).2.1 + (rdU 0 0 l).1, 0)

theorem rdT_put (s : ByteArray) (more : List UInt8) (h : s.size ≤ 1000000000) : rdT (uvarint s.size ++ s.data.toList ++ more) = if 2000 < s.size then ([], 0, 20) else (s.data.toList, (uvarint s.size ++ s.data.toList).length, 0) := by
  have hs : s.data.toList.length = s.size := by rw [Array.length_toList]; rfl
  have hu := rdU_put s.size (s.data.toList ++ more) (by omega)
  rw [← List.append_assoc] at hu
  unfold rdT
  rw [hu]
  simp only [ne_eq, not_true, if_false]
  split
  · rfl
  · rw [if_neg (by simp only [List.length_append]; omega), List.append_assoc, List.drop_left, ← hs, List.take_left]
    simp
end Go.Proofs.YtfgmbjdeimallaaGreatDoor
/- Frames: number, Frame of the program and of the document. -/

namespace Go.Proofs.YtfgmbjdeimallaaGreatDoor
open Go.RowKit Go.Lib

/-- a number's four bytes, the least first -/
def num4 (n : Nat) : List UInt8 := [UInt8.ofNat n, UInt8.ofNat (n / 256), UInt8.ofNat (n / 65536), UInt8.ofNat (n / 16777216)]
theorem byteOf (n : Nat) : IntKind.u8.wrap (n : Int) = (((UInt8.ofNat n).toNat : Nat) : Int) := by
  rw [UInt8.toNat_ofNat', IntKind.wrap_u8']
  omega
theorem byteDiv (n k : Nat) : IntKind.u8.wrap ((n : Int) / (k : Int)) = (((UInt8.ofNat (n / k)).toNat : Nat) : Int) := by
  rw [show (n : Int) / (k : Int) = ((n / k : Nat) : Int) by simp]
  exact byteOf _
theorem crc_lt (l : List UInt8) : crc l < 4294967296 := by unfold crc; omega
/-- what frames bytes -/
def frame (l : List UInt8) : List UInt8 := num4 l.length ++ l ++ num4 (crc (num4 l.length ++ l))

set_option maxRecDepth 100000 in
theorem number_any (n : Nat) (w : World) :
    Calls Tryz.prog 87 #[.int .u32 n] w fun e w' => ∃ ao c, e = .returned (.slice ao (num4 n).length c) ∧ Own w' w.heap.size ao c (num4 n) ∧ Keeps [] w w' := by
  have q0 := byteOf n
  have q1 : IntKind.u8.wrap ((n : Int) / 256) = (((UInt8.ofNat (n / 256)).toNat : Nat) : Int) := byteDiv n 256
  have q2 : IntKind.u8.wrap ((n : Int) / 65536) = (((UInt8.ofNat (n / 65536)).toNat : Nat) : Int) := byteDiv n 65536
  have q3 : IntKind.u8.wrap ((n : Int) / 16777216) = (((UInt8.ofNat (n / 16777216)).toNat : Nat) : Int) := byteDiv n 16777216
  have hO : Own (w.alloc (.cells (bys (num4 n)).toArray 5)) w.heap.size (some ⟨w.heap.size, 0, none⟩) 4 (num4 n) := by
    have := World.ownsRow_lit (base := w.heap.size) (e := 5) (size := 1) w (bys (num4 n)).toArray 4 (Nat.le_refl _) (by decide) (by simp [num4])
    simpa [Own, num4] using this
  have hk := (Keeps.refl [] w).alloc (.cells (bys (num4 n)).toArray 5)
  have hl : (num4 n).length = 4 := rfl
  have ec : (bys (num4 n)).toArray = #[.int .u8 (UInt8.ofNat n).toNat, .int .u8 (UInt8.ofNat (n / 256)).toNat, .int .u8 (UInt8.ofNat (n / 65536)).toNat, .int .u8 (UInt8.ofNat (n / 16777216)).toNat] := rfl
  rw [ec] at hO hk
  go_enter Tryz.func87, Tryz.ntmps87
  go_wp2_with fail
  go_ret
  exact ⟨_, _, rfl, hO, hk⟩

set_option maxRecDepth 100000 in
set_option maxHeartbeats 4000000 in
theorem frame_any (ao : Option Addr) (c : Nat) (l : List UInt8) (w : World) (h : Rb w ao c l) :
    Calls Tryz.prog 74 #[.slice ao l.length c] w fun e w' => ∃ bo d ev, e = .returned (.tuple #[.slice bo (if l.length ≤ 262144 then frame l else []).length d, ev]) ∧ Own w' w.heap.size bo d (if l.length ≤ 262144 then frame l else []) ∧ ErrF w' ev (if l.length ≤ 262144 then 0 else 20) ∧ Keeps [] w w' := by
  obtain ⟨i, z, hi, hz, hsz, hby, hzc⟩ := infoB
  by_cases hl : l.length ≤ 262144
  rotate_left
  · rw [if_neg hl, if_neg hl]
    have n1 : (262144 : Int) < (l.length : Int) := by omega
    clear hl
    go_enter Tryz.func74, Tryz.ntmps74
    go_wp2_with fail
    refine (wform _ w).mono ?_
    rintro e w1 ⟨g, rfl, hE, hk1⟩
    go_wp2_with fail
    go_ret2
    exact ⟨none, 0, _, rfl, Own.nil _ _, ErrF.of hE (by simp), hk1⟩
  rw [if_pos hl, if_pos hl]
  have n1 : ¬ ((262144 : Int) < (l.length : Int)) := by omega
  have q1 : IntKind.u32.wrap (l.length : Int) = l.length := IntWalk.u32_in _ (by omega)
  have N1 := number_any l.length w
  obtain ⟨x, hx⟩ : ∃ x, x = num4 l.length := ⟨_, rfl⟩
  have hxl : x.length = 4 := by rw [hx]; rfl
  rw [← hx] at N1
  have N2 := fun W => number_any (crc (x ++ l)) W
  obtain ⟨y, hy⟩ : ∃ y, y = num4 (crc (x ++ l)) := ⟨_, rfl⟩
  have hyl : y.length = 4 := by rw [hy]; rfl
  rw [← hy] at N2
  have HF := Lib.hid (show frame l = x ++ l ++ y by unfold frame; rw [← hx, ← hy])
  have HN2 := Lib.hid N2
  clear N2 hx hy hl
  go_enter Tryz.func74, Tryz.ntmps74
  go_wp2_with fail
  refine N1.mono ?_
  rintro e w1 ⟨ao1, c1, rfl, hO1, hk1⟩
  clear N1
  have HXL := Lib.hid hxl
  have HYL := Lib.hid hyl
  clear hxl hyl
  go_upto_region 4 with (at_builtin; refine wpList_append_by _ rfl _ _ 26 26 rfl w.heap.size 5 i z 1 1 Tryz.underlying26 hi hz hsz hby hzc ao1 _ c1 _ rfl hO1 _ rfl l.length _ ((h.keep0 hk1).src Tryz.underlying26) (by have := HXL.out; unfold maxLen; omega) (by have := HXL.out; omega) hk1.size ?_; intro ao2 c2 w2 hO2 hk2 hb2)
  have hO2' := Own.of hO2 (bys_append x l).symm
  have hlen : x.length + l.length = (x ++ l).length := by simp
  rw [hlen]
  have hk02 := hk1.own hk2 hO1
  clear hO1 hO2 hk1 hk2 hb2 hlen
  have hll : (x ++ l).length ≤ 262148 := by have := HXL.out; rw [List.length_append]; omega
  have S := sum_any ao2 c2 (x ++ l) w2 hO2'.rb
  generalize hxl2 : x ++ l = xl at *
  go_wp2_with fail
  refine S.mono ?_
  rintro e w' ⟨rfl, hw⟩
  obtain rfl := hw.symm
  clear S hw
  go_wp2_with fail
  refine (HN2.out _).mono ?_
  rintro e w4 ⟨ao4, c4, rfl, hO4, hk4⟩
  have hO24 := hO2'.keep0 hk4
  have hk04 := hk02.trans hk4
  clear HN2 hO2' hk02 hk4
  go_wp2_with (at_builtin; refine wpList_append_by _ rfl _ _ 26 26 rfl w.heap.size 5 i z 1 1 Tryz.underlying26 hi hz hsz hby hzc ao2 _ c2 _ rfl hO24 _ rfl y.length _ (hO4.rb.src Tryz.underlying26) (by have := HYL.out; unfold maxLen; omega) (by have := HYL.out; omega) hk04.size ?_; intro ao5 c5 w5 hO5 hk5 hb5)
  have hk5' := hk04.own hk5 hO24
  have hO5' : Own w5 w.heap.size ao5 c5 (frame l) := Own.of hO5 (by rw [HF.out, bys_append])
  have hlen5 : (frame l).length = xl.length + y.length := by rw [HF.out, List.length_append]
  go_ret2
  exact ⟨ao5, c5, .nilIface, by rw [hlen5]; rfl, hO5', .inl ⟨rfl, rfl⟩, hk5'⟩

end Go.Proofs.YtfgmbjdeimallaaGreatDoor
