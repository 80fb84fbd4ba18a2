/- LogHints: the walk. -/
import Derived.Test.YtahdclnflpkbcaaDoorLogG
import Derived.Test.YtahdclnflpkbcaaDoorLogP

namespace Go.Proofs.YtahdclnflpkbcaaDoor
open Go.RowKit

set_option maxRecDepth 100000 in
set_option maxHeartbeats 16000000 in
theorem hints_any (la lb : Option Addr) (ll lc ml mc : Nat) (cmp : Int) (zs ys : Nat → Int) (w : World) (hg : (w).cell? ⟨0, 0, none⟩ = some (.iface 123 (.agg #[.pointer (some ⟨1, 35, none⟩)]))) (hc0 : 0 ≤ cmp) (hc1 : cmp < 256) (hll : ll ≤ 9223372036854775807) (hml : ml ≤ 9223372036854775807) (hz : U8s w la ll zs) (hy : U8s w lb ml ys) :
    Calls Tryd.prog 4 #[.slice la ll lc, .slice lb ml mc, .int .u8 cmp] w fun e w' => e = .returned (.bool true) ∧ Keeps [] w w' := by
  go_enter Tryd.func4, Tryd.ntmps4
  go_wp2_with fail
  refine (known_any w hg).mono ?_
  rintro e w1 ⟨rfl, hk1⟩
  by_cases h1 : 30 < ll
  · go_wp2_with fail
    go_ret
    exact ⟨rfl, hk1⟩
  by_cases h2 : 30 < ml
  · go_wp2_with fail
    go_ret
    exact ⟨rfl, hk1⟩
  by_cases h3 : ml = 0
  · subst h3
    go_wp2_with fail
    go_ret
    exact ⟨rfl, hk1⟩
  have n1 : (ll : Int) ≤ 30 := by omega
  have n2 : (ml : Int) ≤ 30 := by omega
  have n3 : ((ml : Int) == 0) = false := by simp; omega
  have n4 : decide ((30 : Int) < (ll : Int)) = false := by simp; omega
  have n5 : decide ((30 : Int) < (ml : Int)) = false := by simp; omega
  go_wp2_with fail
  refine (grown_any la ll lc zs w1 (by omega) (hz.keep hk1)).mono ?_
  rintro e w2 ⟨x, xs, rfl, hxb, hX2, hxl, hk2⟩
  go_wp2_with fail
  refine (grown_any lb ml mc ys w2 (by omega) (hy.keep (hk1.trans hk2))).mono ?_
  rintro e w3 ⟨y, es, rfl, hyb, hY3, hyl, hk3⟩
  have hX3 := hX2.keep0 hk3
  have hxy : y ≠ x := by have := hX2.lt; omega
  have hxw : w.heap.size ≤ x := by have := hk1.size; omega
  have hyw : w.heap.size ≤ y := by have := hk1.size; have := hk2.size; omega
  have hk03 := (hk1.trans hk2).trans hk3
  clear hk1 hk2 hk3 hX2 hz hy hxb hyb
  have q0 : IntKind.u64.wrap cmp = cmp := IntWalk.u64_in _ (by omega)
  have q1 : IntKind.u64.wrap (ll : Int) = ll := IntWalk.u64_in _ (by omega)
  have q2 : IntKind.u64.wrap ((ll : Int) + 1) = ll + 1 := IntWalk.u64_in _ (by omega)
  go_wp2_with fail
  have hi0 : 0 ≤ cmp % ((ll : Int) + 1) := Int.emod_nonneg _ (by omega)
  have hi1 : cmp % ((ll : Int) + 1) < (ll : Int) + 1 := Int.emod_lt_of_pos _ (by omega)
  generalize cmp % ((ll : Int) + 1) = i at *
  refine (lcompact x ⟨0, 0, xs⟩ i w3 hX3 (Int.le_refl _) (by simp only [Lg.last]; omega) hi0 (by simp only [Lg.last]; omega)).mono ?_
  rintro e w4 ⟨rfl, hX4, hk4⟩
  have hY4 := hY3.keepL hX3 hk4 hxy
  have hk04 : Keeps [] w w4 := hk03.step hk4 (by intro z hz; simp at hz; omega)
  have hxl' : (xs.drop (i - (⟨0, 0, xs⟩ : Lg).base).toNat).length = ll - i.toNat := by simp [hxl]
  clear hX3 hY3 hk4 hk03 q0 q1 q2
  generalize (⟨0, 0, xs⟩ : Lg).at i = bt at *
  generalize xs.drop (i - (⟨0, 0, xs⟩ : Lg).base).toNat = xs' at *
  go_wp2_with fail
  refine (lbase x ⟨i, bt, xs'⟩ w4 hX4).mono ?_
  rintro e w5 ⟨rfl, hk5⟩
  go_wp2_with fail
  refine (lterm_any y ⟨0, 0, es⟩ i w5 (hY4.keep0 hk5) (Int.le_refl _) (by simp only [Lg.last]; omega)).mono ?_
  rintro e w6 ⟨tt, ev, rfl, hev, hk6⟩
  have hX6 := (hX4.keep0 hk5).keep0 hk6
  have hY6 := (hY4.keep0 hk5).keep0 hk6
  have hk06 := (hk04.trans hk5).trans hk6
  clear hX4 hY4 hk5 hk6 hk04
  rcases hev with ⟨he0, he1, he2, rfl⟩ | ⟨_, gg, rfl⟩
  rotate_left
  · go_wp2_with fail
    go_ret
    exact ⟨rfl, hk06⟩
  by_cases htb : tt = bt
  rotate_left
  · go_wp2_with fail
    go_ret
    exact ⟨rfl, hk06⟩
  subst htb
  have hml' : (⟨0, 0, es⟩ : Lg).last = (ml : Int) := by simp only [Lg.last]; omega
  rw [hml'] at he1
  go_wp2_with fail
  refine (llastt y ⟨0, 0, es⟩ w6 hY6 (Int.le_refl _) (by omega)).mono ?_
  rintro e w7 ⟨rfl, hk7⟩
  have hX7 := hX6.keep0 hk7
  have hY7 := hY6.keep0 hk7
  have hk07 := hk06.trans hk7
  clear hX6 hY6 hk06 hk7
  rw [hml']
  go_wp2_with fail
  go_loopw [13, 15] (fun a n wr => ∃ p k : Nat, a = .int .u64 (p : Int) ∧ n = .int .i64 (k : Int) ∧ i ≤ (p : Int) ∧ p + k ≤ ml ∧ LogAt wr x ⟨i, tt, xs'⟩ ∧ LogAt wr y ⟨0, 0, es⟩ ∧ Keeps [] w wr) (fun a _ _ => (intOf a).toNat)
  case atStart => exact ⟨ml, 0, rfl, rfl, he1, by omega, hX7, hY7, hk07⟩
  case round =>
    obtain ⟨p, k, rfl, rfl, hip, hpk, hXr, hYr, hkr⟩ := hrel
    clear hX7 hY7 hk07
    have t1 : (k : Int) ≤ (ll : Int) + (ml : Int) + 2 := by omega
    have t2 : IntKind.u64.wrap ((p : Int) + 1) = (p : Int) + 1 := IntWalk.u64_in _ (by omega)
    go_wp2_with fail
    have hlx : (⟨i, tt, xs'⟩ : Lg).last = (ll : Int) := by simp only [Lg.last, hxl']; omega
    refine (lterm_ok y ⟨0, 0, es⟩ p wr hYr (Int.le_refl _) (by omega) (by simp) (by omega)).mono ?_
    rintro e w8 ⟨rfl, hk8⟩
    have hX8 := hXr.keep0 hk8
    have hY8 := hYr.keep0 hk8
    have hk08 := hkr.trans hk8
    clear hXr hYr hkr hk8
    go_wp2_with fail
    refine (lentries y ⟨0, 0, es⟩ ((p : Int) + 1) 100 w8 hY8 (Int.le_refl _) (by omega) (by omega)).mono ?_
    rintro e w9 ⟨bo, d, rfl, hT, hk9⟩
    have hX9 := hX8.keep0 hk9
    have hY9 := hY8.keep0 hk9
    have hk09 := hk08.trans hk9
    clear hX8 hY8 hk08 hk9
    have hpart : (⟨0, 0, es⟩ : Lg).part ((p : Int) + 1) 100 = es.drop p := by
      unfold Lg.part
      have e1 : (max ((p : Int) + 1) ((⟨0, 0, es⟩ : Lg).base + 1) - (⟨0, 0, es⟩ : Lg).base - 1).toNat = p := by simp only []; omega
      rw [e1, List.take_of_length_le (by simp; omega)]
    rw [hpart] at hT ⊢
    have hdl : (es.drop p).length = ml - p := by simp [hyl]
    go_wp2_with fail
    by_cases hA : (ll : Int) < p
    · refine (lmerge_no x ⟨i, tt, xs'⟩ p _ i (ll : Int) bo _ d w9 hX9 hip (fun w' h' => by rw [← hlx]; exact llacks_a x _ p _ w' h' hi0 (by omega) (by omega))).mono ?_
      rintro e wA ⟨ev, rfl, hE, hne, hkA⟩
      rcases hE with ⟨rfl, _⟩ | ⟨gg, pp, rfl, _⟩
      · exact absurd rfl hne
      · have u1 : ¬ ((p : Int) ≤ (ll : Int)) := by omega
        have u2 : ¬ ((ll : Int) < i) := by omega
        go_wp2_with fail
        go_roundw
        case rel => exact ⟨ll, k + 1, rfl, by go_num, by omega, by omega, hX9.keep0 hkA, hY9.keep0 hkA, hk09.trans hkA⟩
        case measure => simp [intOf]; omega
    by_cases heq : (⟨i, tt, xs'⟩ : Lg).at p = (⟨0, 0, es⟩ : Lg).at p
    rotate_left
    · have hip' : i < p := by
        rcases Int.lt_or_le i p with h | h
        · exact h
        · exfalso
          have e0 : (p : Int) = i := by omega
          apply heq
          rw [e0, ← he2]
          exact Lg.at_base _
      refine (lmerge_no x ⟨i, tt, xs'⟩ p _ i ((p : Int) - 1) bo _ d w9 hX9 hip (fun w' h' => llacks_b x _ p _ w' h' hi0 (by omega) hip' (by omega) heq)).mono ?_
      rintro e wA ⟨ev, rfl, hE, hne, hkA⟩
      rcases hE with ⟨rfl, _⟩ | ⟨gg, pp, rfl, _⟩
      · exact absurd rfl hne
      · have u1 : ¬ ((p : Int) ≤ (p : Int) - 1) := by omega
        have u2 : ¬ ((p : Int) - 1 < i) := by omega
        have u3 : (p : Int) - 1 = ((p - 1 : Nat) : Int) := by omega
        rw [u3] at u1 u2 ⊢
        go_wp2_with fail
        go_roundw
        case rel => exact ⟨p - 1, k + 1, rfl, by go_num, by omega, by omega, hX9.keep0 hkA, hY9.keep0 hkA, hk09.trans hkA⟩
        case measure => simp [intOf]; omega
    · have M := lmerge x ⟨i, tt, xs'⟩ p i bo (es.drop p).length d (es.drop p) w9 rfl hX9 hT (fun ad ha hne => by obtain ⟨_, _, hB, _, _⟩ := hX9; exact sl_ne hB hT hne ad ha) hi0 (by omega) (by omega) hip (by omega) hi0
      have HH := (laid_hint i tt xs' es p hi0 hip (by omega) (by omega) heq).2
      have hGb : ((⟨i, tt, xs'⟩ : Lg).laid p (es.drop p) i).base = i := by unfold Lg.laid; split <;> rfl
      have hGl : ((⟨i, tt, xs'⟩ : Lg).laid p (es.drop p) i).last ≤ 200 := by
        unfold Lg.laid
        split
        · omega
        · simp only [Lg.last, List.length_append, List.length_take, List.length_drop]
          omega
      have hpm : (p : Int) + ((es.drop p).length : Int) = (ml : Int) := by omega
      rw [heq, hpm, hdl] at M
      generalize (⟨i, tt, xs'⟩ : Lg).laid p (es.drop p) i = G at *
      refine M.mono ?_
      rintro e wA ⟨ch, rfl, hch, hXA, hkA⟩
      clear hch
      have hYA := hY9.keepL hX9 hkA hxy
      have hk0A : Keeps [] w wA := hk09.step hkA (by intro z hz; simp at hz; omega)
      obtain ⟨hle, hat⟩ := HH
      have HA := Lib.hid hat
      clear M hX9 hY9 hkA hk09 hT hat hpm
      go_wp2_with fail
      refine (llastt x G wA hXA (by omega) (by omega)).mono ?_
      rintro e wB ⟨rfl, hkB⟩
      go_wp2_with fail
      refine (llastt y ⟨0, 0, es⟩ wB (hYA.keep0 hkB) (Int.le_refl _) (by omega)).mono ?_
      rintro e wC ⟨rfl, hkC⟩
      have hkf := (hk0A.trans hkB).trans hkC
      have hat := HA.out
      rw [hml']
      rw [show (es.length : Int) = (ml : Int) by omega] at hle hat
      clear HA hXA hYA hGb heq he2 hpart
      generalize G.last = L at *
      have hAx : ∃ A, G.at L = A := ⟨_, rfl⟩
      obtain ⟨A, hA⟩ := hAx
      rw [hA]
      generalize (⟨0, 0, es⟩ : Lg).at (ml : Int) = B at *
      by_cases hLm : L = (ml : Int)
      · subst hLm
        obtain rfl : A = B := hA.symm.trans (hat rfl)
        clear hA hat
        go_wp2_with fail
        go_ret
        exact ⟨by simp, hkf⟩
      · have hgt : (ml : Int) < L := by omega
        go_wp2_with fail
        go_ret
        exact ⟨by simp, hkf⟩
end Go.Proofs.YtahdclnflpkbcaaDoor
