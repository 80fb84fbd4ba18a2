/- WireLengths: the walk. -/
import Derived.Test.YtcaahgjepkcenaaDoorWk

namespace Go.Proofs.YtcaahgjepkcenaaDoor
open Go.RowKit Go.Lib

/-- how many bits a number has -/
def bitlen (n : Nat) : Nat := if h : n = 0 then 0 else bitlen (n / 2) + 1
termination_by n
decreasing_by omega
theorem bitlen_zero : bitlen 0 = 0 := by rw [bitlen, dif_pos rfl]
theorem bitlen_pos {n : Nat} (h : n ≠ 0) : bitlen n = bitlen (n / 2) + 1 := by rw [bitlen, dif_neg h]
theorem bitlen_seven {n : Nat} (h : 128 ≤ n) : bitlen n = bitlen (n / 128) + 7 := by
  rw [bitlen_pos (n := n) (by omega), bitlen_pos (n := n / 2) (by omega), bitlen_pos (n := n / 2 / 2) (by omega), bitlen_pos (n := n / 2 / 2 / 2) (by omega), bitlen_pos (n := n / 2 / 2 / 2 / 2) (by omega),
    bitlen_pos (n := n / 2 / 2 / 2 / 2 / 2) (by omega), bitlen_pos (n := n / 2 / 2 / 2 / 2 / 2 / 2) (by omega)]
  have e : n / 2 / 2 / 2 / 2 / 2 / 2 / 2 = n / 128 := by omega
  rw [e]
theorem bitlen_le : ∀ (k n : Nat), n < 2 ^ k → bitlen n ≤ k
  | 0, n, h => by
    obtain rfl : n = 0 := by simpa using h
    rw [bitlen_zero]
    omega
  | k + 1, n, h => by
    by_cases h0 : n = 0
    · subst h0; rw [bitlen_zero]; omega
    · rw [bitlen_pos h0]
      have := bitlen_le k (n / 2) (by rw [Nat.pow_succ] at h; omega)
      omega
theorem uvarint_bits (n : Nat) : (uvarint n).length = max 1 ((bitlen n + 6) / 7) := by
  induction n using Nat.strongRecOn with
  | ind n ih =>
  by_cases h : n < 128
  · rw [uvarint_small h]
    have := bitlen_le 7 n h
    simp only [List.length_singleton]
    omega
  · have h1 := ih (n / 128) (by omega)
    have h2 := bitlen_pos (n := n / 128) (by omega)
    rw [uvarint_big (by omega), List.length_cons, h1, bitlen_seven (n := n) (by omega)]
    omega
theorem uvarint_more (n : Nat) : ∀ i (hi : i < (uvarint n).length), (128 ≤ (uvarint n)[i].toNat ↔ i + 1 < (uvarint n).length) := by
  induction n using Nat.strongRecOn with
  | ind n ih =>
  intro i hi
  by_cases h : n < 128
  · have e := uvarint_small h
    have e2 : n.toUInt8.toNat = n := by simp only [Nat.toUInt8, UInt8.toNat_ofNat']; omega
    have hi' := hi
    rw [e, List.length_singleton] at hi'
    obtain rfl : i = 0 := by omega
    simp only [e, List.getElem_singleton, e2, List.length_singleton]
    omega
  · have e := uvarint_big (x := n) (by omega)
    have e2 : (n % 128 + 128).toUInt8.toNat = n % 128 + 128 := by simp only [Nat.toUInt8, UInt8.toNat_ofNat']; omega
    have hp := uvarint_pos (n / 128)
    cases i with
    | zero => simp only [e, List.getElem_cons_zero, e2, List.length_cons]; omega
    | succ i =>
      have hi' := hi
      rw [e, List.length_cons] at hi'
      have := ih (n / 128) (by omega) i (by omega)
      simp only [e, List.getElem_cons_succ, List.length_cons]
      omega

set_option maxRecDepth 100000 in
set_option maxHeartbeats 16000000 in
theorem lengths_any (n : Nat) (k : Int) (w : World) (hg : (w).cell? ⟨0, 0, none⟩ = some (.iface 153 (.agg #[.pointer (some ⟨2, 27, none⟩)]))) (hn : n < 18446744073709551616) (hk : (Lit.int .i64 k).wf = true) :
    Calls Tryd.prog 3 #[.int .u64 n, .int .i64 k] w fun e w' => e = .returned (.bool true) ∧ Keeps [] w w' := by
  have hkb := bounds_i64 hk
  go_enter Tryd.func3, Tryd.ntmps3
  go_wp2_with fail
  refine (wknown w hg).mono ?_
  rintro e w1 ⟨rfl, hk1⟩
  go_wp2_with fail
  go_loopw [5, 6] (fun b m wr => ∃ (x y : Nat), b = .int .i64 (x : Int) ∧ m = .int .u64 (y : Int) ∧ y ≤ n ∧ x + bitlen y = bitlen n ∧ wr = w1) (fun _ m _ => (intOf m).toNat)
  case atStart => exact ⟨0, n, rfl, rfl, by omega, by omega, rfl⟩
  case round =>
    obtain ⟨x, y, rfl, rfl, hyn, hxy, rfl⟩ := hrel
    have hb64 := bitlen_le 64 n (by omega)
    by_cases hy : y = 0
    · subst hy
      rw [bitlen_zero, Nat.add_zero] at hxy
      subst hxy
      go_wp2_with fail
      refine (putUint n _ hn).mono ?_
      rintro e w2 ⟨ao, c, rfl, hO, hk2⟩
      have hk02 := hk1.trans hk2
      have hul := uvarint_length64 hn
      have e1 := uvarint_bits n
      have e2 := Lib.hid (uvarint_more n)
      have q1 : IntKind.i64.wrap ((bitlen n : Int) + 6) = bitlen n + 6 := IntWalk.i64_in _ (by omega)
      generalize uvarint n = l at *
      clear hk1 hk2
      have q2 : (if (1 : Int) < ((bitlen n : Int) + 6) / 7 then ((bitlen n : Int) + 6) / 7 else 1) = (l.length : Int) := by
        rw [e1]
        split <;> omega
      have e1' := Lib.hid e1
      clear e1
      go_upto_region 11 with (fail)
      clear q1 q2 e1'
      have hR := hO.rb
      clear hO
      go_wp2_with fail
      go_loopw [8] (fun v wx => ∃ j : Nat, v = .int .i64 (j : Int) ∧ j ≤ l.length ∧ wx = w2) (fun v _ => l.length - (intOf v).toNat)
      case atStart => exact ⟨0, rfl, by omega, rfl⟩
      case round =>
        obtain ⟨j, rfl, hj, hw⟩ := hrel
        subst hw
        by_cases hjl : j < l.length
        · obtain ⟨bb, o, rfl⟩ := hR.at (by have := hR.cap; omega)
          have hcell := hR.cell _ rfl j _ (bys_at hjl)
          simp only at hcell
          have hx := e2.out j hjl
          have hlti : (j : Int) < (l.length : Int) := by omega
          have s1 : IntKind.i64.wrap ((j : Int) + 1) = j + 1 := IntWalk.i64_in _ (by omega)
          generalize l[j].toNat = x at *
          by_cases hm : j + 1 < l.length
          · have b1 : (128 : Int) ≤ (x : Int) := by have := hx.2 hm; omega
            have b2 : (j : Int) + 1 < (l.length : Int) := by omega
            go_wp2_with fail
            go_roundw
            case rel => exact ⟨j + 1, by simp, by omega, by simp⟩
            case measure => simp [intOf]; omega
          · have b1 : ¬ ((128 : Int) ≤ (x : Int)) := by intro h; exact hm (hx.1 (by omega))
            have b2 : ¬ ((j : Int) + 1 < (l.length : Int)) := by omega
            clear hx
            go_wp2_with fail
            go_roundw
            case rel => exact ⟨j + 1, by simp, by omega, by simp⟩
            case measure => simp [intOf]; omega
        · have hlti : ¬ ((j : Int) < (l.length : Int)) := by omega
          go_upto_if 51 with (fail)
          obtain ⟨K, hK⟩ : ∃ K : Int, K = if k < 0 then -(k + 1) else k := ⟨_, rfl⟩
          have hK0 : 0 ≤ K := by rw [hK]; split <;> omega
          have hK1 : K < 9223372036854775808 := by rw [hK]; split <;> omega
          go_cut [1] (fun v wz => v = .int .i64 K ∧ wz = wr)
          case first =>
            by_cases hk0 : k < 0
            · have s1 : IntKind.i64.wrap (k + 1) = k + 1 := IntWalk.i64_in _ (by omega)
              have s2 : IntKind.i64.wrap (-(k + 1)) = -(k + 1) := IntWalk.i64_in _ (by omega)
              rw [if_pos hk0] at hK
              have HK := Lib.hid hK
              clear hK
              go_wp2_with fail
              go_meet
              exact ⟨by rw [HK.out], rfl⟩
            · rw [if_neg hk0] at hK
              have HK := Lib.hid hK
              clear hK
              go_wp2_with fail
              go_meet
              exact ⟨by rw [HK.out], rfl⟩
          case rest =>
            obtain ⟨rfl, rfl⟩ := hcut
            clear hK hj hjl hlti hR e2 hb64 hul
            have hwf : (Lit.int .i64 K).wf = true := by simp [Lit.wf, IntKind.min, IntKind.max, IntKind.signed, IntKind.bits]; omega
            have hwf2 : (Lit.int .i64 (-K - 1)).wf = true := by simp [Lit.wf, IntKind.min, IntKind.max, IntKind.signed, IntKind.bits]; omega
            have z1 : zigzag K = 2 * K.toNat := by unfold zigzag; rw [if_pos hK0]; omega
            have z2 : zigzag (-K - 1) = 2 * K.toNat + 1 := by unfold zigzag; rw [if_neg (by omega)]; omega
            have s1 : IntKind.i64.wrap (-K) = -K := IntWalk.i64_in _ (by omega)
            have s2 : IntKind.i64.wrap (-K - 1) = -K - 1 := IntWalk.i64_in _ (by omega)
            have hz1 := zigzag_lt' hwf
            have hz2 := zigzag_lt' hwf2
            have u1 := rdU_put (zigzag K) [] hz1
            have u2 := rdU_put (zigzag (-K - 1)) [] hz2
            rw [List.append_nil] at u1 u2
            have HU1 := Lib.hid u1
            have HU2 := Lib.hid u2
            have s3 : IntKind.u64.wrap ((2 * K.toNat : Nat) + 1 : Int) = ((2 * K.toNat + 1 : Nat) : Int) := IntWalk.u64_in _ (by omega)
            clear u1 u2
            rw [z1] at HU1 hz1
            rw [z2] at HU2 hz2
            have P1 := fun W => putInt K W hwf
            have P2 := fun W => putInt (-K - 1) W hwf2
            rw [z1] at P1
            rw [z2] at P2
            have HP1 := Lib.hid P1
            have HP2 := Lib.hid P2
            clear P1 P2 z1 z2 hwf hwf2 hz1 hz2
            generalize uvarint (2 * K.toNat) = y1 at *
            generalize uvarint (2 * K.toNat + 1) = y2 at *
            have m1 : ((2 * K.toNat : Nat) : Int) % 2 = 0 := by omega
            generalize 2 * K.toNat = q at *
            go_wp2_with fail
            refine (HP1.out _).mono ?_
            rintro e w3 ⟨ao1, c1, rfl, hO1, hk3⟩
            go_wp2_with fail
            have U1 := uint_any ao1 c1 y1 w3 hO1.rb
            rw [HU1.out] at U1
            refine U1.mono ?_
            rintro e w4 ⟨ev1, rfl, _, hn1, hk4⟩
            obtain rfl := hn1.2 rfl
            clear U1 hO1 hn1
            go_wp2_with fail
            refine (HP2.out _).mono ?_
            rintro e w5 ⟨ao2, c2, rfl, hO2, hk5⟩
            go_wp2_with fail
            have U2 := uint_any ao2 c2 y2 w5 hO2.rb
            rw [HU2.out] at U2
            refine U2.mono ?_
            rintro e w6 ⟨ev2, rfl, _, hn2, hk6⟩
            obtain rfl := hn2.2 rfl
            clear U2 hO2 hn2
            have hkf := (((hk02.trans hk3).trans hk4).trans hk5).trans hk6
            go_wp2_with fail
            go_ret
            exact ⟨rfl, hkf⟩
    · have hy0 : (0 : Int) < (y : Int) := by omega
      have s1 : IntKind.i64.wrap ((x : Int) + 1) = x + 1 := IntWalk.i64_in _ (by omega)
      rw [bitlen_pos hy] at hxy
      go_wp2_with fail
      go_roundw
      case rel => exact ⟨x + 1, y / 2, by simp, by simp, by omega, by omega, by simp⟩
      case measure => simp [intOf]; omega
end Go.Proofs.YtcaahgjepkcenaaDoor
