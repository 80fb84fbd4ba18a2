/- Generic slices: BinarySearchFunc. -/
import Derived.Test.YtknnhnpcgefchaaDoorTr5

namespace Go.Proofs.YtknnhnpcgefchaaDoor
open Go.RowKit Go.Lib

theorem Tryd.sizePr : (Tryd.prog.info? 64).map (·.size) = some 2 := by kernel_rfl
set_option maxRecDepth 100000 in
set_option maxHeartbeats 4000000 in
/-- BinarySearchFunc: elements ev, keys ks (in order as far as k goes) -/
theorem bsN (ao : Option Addr) (n c : Nat) (xs : List Value) (ev : Nat → Nat) (ks : Nat → Bs) (ko : Option Addr) (kc : Nat) (k : Bs) (w : World) (hS : Sl w 1 ao n c xs) (hn : n ≤ 1000000)
    (hev : ∀ i, i < n → xs[i]? = some (.pointer (some ⟨ev i, 0, none⟩)))
    (hC : ∀ i, i < n → ∀ w', Keeps [] w w' → Calls Tryd.prog 42 #[.pointer (some ⟨ev i, 0, none⟩), .slice ko k.length kc] w' fun e w'' => e = .returned (.int .i64 (cmpL (ks i) k)) ∧ Keeps [] w' w'')
    (hm : ∀ i j, i < j → j < n → cmpL (ks j) k = -1 → cmpL (ks i) k = -1) :
    Calls Tryd.prog 41 #[.slice ao n c, .slice ko k.length kc, .func (.func 42) #[] #[]] w fun e w' => ∃ r : Nat, r ≤ n ∧ (∀ i, i < r → cmpL (ks i) k = -1) ∧ (∀ i, r ≤ i → i < n → cmpL (ks i) k ≠ -1) ∧
      e = .returned (.tuple #[.int .i64 (r : Int), .bool (decide (r < n) && (cmpL (ks r) k == 0))]) ∧ Keeps [] w w' := by
  have HC := Lib.hid hC
  have HM := Lib.hid hm
  have HE := Lib.hid hev
  clear hC hm hev
  go_enter Tryd.func41, Tryd.ntmps41
  go_wp2_with fail
  go_loopw [9, 10] (fun v9 v10 wr => ∃ i j : Nat, v9 = .int .i64 (i : Int) ∧ v10 = .int .i64 (j : Int) ∧ i ≤ j ∧ j ≤ n ∧ (∀ a, a < i → cmpL (ks a) k = -1) ∧ (∀ a, j ≤ a → a < n → cmpL (ks a) k ≠ -1) ∧ Keeps [] w wr) (fun v9 v10 _ => (intOf v10).toNat - (intOf v9).toNat)
  case atStart => exact ⟨0, n, rfl, rfl, by omega, by omega, fun a h => by omega, fun a h h' => by omega, Keeps.refl _ _⟩
  case round =>
    obtain ⟨i, j, rfl, rfl, hij, hjn, ha, hb, hk⟩ := hrel
    have HA := Lib.hid ha
    have HB := Lib.hid hb
    clear ha hb
    by_cases hlt : i < j
    · have n1 : (i : Int) < (j : Int) := by omega
      obtain ⟨h, hh⟩ : ∃ h, h = (i + j) / 2 := ⟨_, rfl⟩
      have hhi : i ≤ h := by omega
      have hhj : h < j := by omega
      have hhn : h < n := by omega
      have q0 : IntKind.i64.wrap ((i : Int) + (j : Int)) = (i : Int) + (j : Int) := IntWalk.i64_in _ (by omega)
      have q1 : IntKind.u64.wrap ((i : Int) + (j : Int)) = (i : Int) + (j : Int) := IntWalk.u64_in _ (by omega)
      have q2 : ((i : Int) + (j : Int)) / 2 = (h : Int) := by omega
      have q2' : ((i : Int) + (j : Int)) >>> 1 = (h : Int) := by rw [Int.shiftRight_eq_div_pow]; simpa using q2
      have q3 : IntKind.u64.wrap (h : Int) = (h : Int) := IntWalk.u64_in _ (by omega)
      have q4 : IntKind.i64.wrap (h : Int) = (h : Int) := IntWalk.i64_in _ (by omega)
      have q5 : IntKind.i64.wrap ((h : Int) + 1) = (h : Int) + 1 := IntWalk.i64_in _ (by omega)
      have p0 : (0 : Int) ≤ (h : Int) := by omega
      have p1 : (h : Int) < (n : Int) := by omega
      clear hh
      obtain ⟨bb, o, rfl⟩ := hS.at (by have := hS.cap; omega)
      have hl := hk.cellSome (hS.cells rfl h _ (HE.out h hhn)) (by simp)
      rw [addr_add rfl] at hl
      go_wp2_with fail
      refine (HC.out h hhn wr hk).mono ?_
      rintro e w2 ⟨rfl, hk2⟩
      have hk3 := hk.trans hk2
      clear hk hk2 hl
      by_cases hcm : cmpL (ks h) k = -1
      · have c1 : cmpL (ks h) k < 0 := by omega
        go_wp2_with fail
        go_roundw
        case rel => exact ⟨h + 1, j, by go_num, rfl, by omega, hjn, fun a hah => by
            rcases Nat.lt_or_ge a h with h1 | h1
            · exact HM.out a h h1 hhn hcm
            · obtain rfl : a = h := by omega
              exact hcm, HB.out, hk3⟩
        case measure => simp [intOf]; omega
      · have c1 : ¬ cmpL (ks h) k < 0 := by have := cmpL_range (ks h) k; omega
        go_wp2_with fail
        go_roundw
        case rel => exact ⟨i, h, rfl, rfl, hhi, by omega, HA.out, fun a hah han hca => by
            rcases Nat.eq_or_lt_of_le hah with h1 | h1
            · subst h1; exact hcm hca
            · exact hcm (HM.out h a h1 han hca), hk3⟩
        case measure => simp [intOf]; omega
    · have n1 : ¬ ((i : Int) < (j : Int)) := by omega
      obtain rfl : i = j := by omega
      by_cases hin : i < n
      · have p1 : (i : Int) < (n : Int) := by omega
        have p0 : (0 : Int) ≤ (i : Int) := by omega
        obtain ⟨bb, o, rfl⟩ := hS.at (by have := hS.cap; omega)
        have hl := hk.cellSome (hS.cells rfl i _ (HE.out i hin)) (by simp)
        rw [addr_add rfl] at hl
        go_wp2_with fail
        refine (HC.out i hin wr hk).mono ?_
        rintro e w2 ⟨rfl, hk2⟩
        have hk3 := hk.trans hk2
        go_wp2_with fail
        go_ret2
        refine ⟨i, hjn, HA.out, HB.out, ?_, hk3⟩
        simp [hin]
      · have p1 : ¬ ((i : Int) < (n : Int)) := by omega
        go_wp2_with fail
        go_ret2
        refine ⟨i, hjn, HA.out, HB.out, ?_, hk⟩
        simp [hin]
set_option maxRecDepth 100000 in
set_option maxHeartbeats 4000000 in
/-- BinarySearchFunc: elements ev, keys ks (in order as far as k goes) -/
theorem bsP (ao : Option Addr) (n c : Nat) (xs : List Value) (ev : Nat → Pr) (ks : Nat → Bs) (ko : Option Addr) (kc : Nat) (k : Bs) (w : World) (hS : Sl w 2 ao n c xs) (hn : n ≤ 1000000)
    (hev : ∀ i, i < n → ∀ j v, (ev i).cells.toList[j]? = some v → xs[i * 2 + j]? = some v)
    (hC : ∀ i, i < n → ∀ w', Keeps [] w w' → Calls Tryd.prog 45 #[.agg (ev i).cells, .slice ko k.length kc] w' fun e w'' => e = .returned (.int .i64 (cmpL (ks i) k)) ∧ Keeps [] w' w'')
    (hm : ∀ i j, i < j → j < n → cmpL (ks j) k = -1 → cmpL (ks i) k = -1) :
    Calls Tryd.prog 44 #[.slice ao n c, .slice ko k.length kc, .func (.func 45) #[] #[]] w fun e w' => ∃ r : Nat, r ≤ n ∧ (∀ i, i < r → cmpL (ks i) k = -1) ∧ (∀ i, r ≤ i → i < n → cmpL (ks i) k ≠ -1) ∧
      e = .returned (.tuple #[.int .i64 (r : Int), .bool (decide (r < n) && (cmpL (ks r) k == 0))]) ∧ Keeps [] w w' := by
  have HC := Lib.hid hC
  have HM := Lib.hid hm
  have HE := Lib.hid hev
  clear hC hm hev
  go_enter Tryd.func44, Tryd.ntmps44
  go_wp2_with fail
  go_loopw [9, 10] (fun v9 v10 wr => ∃ i j : Nat, v9 = .int .i64 (i : Int) ∧ v10 = .int .i64 (j : Int) ∧ i ≤ j ∧ j ≤ n ∧ (∀ a, a < i → cmpL (ks a) k = -1) ∧ (∀ a, j ≤ a → a < n → cmpL (ks a) k ≠ -1) ∧ Keeps [] w wr) (fun v9 v10 _ => (intOf v10).toNat - (intOf v9).toNat)
  case atStart => exact ⟨0, n, rfl, rfl, by omega, by omega, fun a h => by omega, fun a h h' => by omega, Keeps.refl _ _⟩
  case round =>
    obtain ⟨i, j, rfl, rfl, hij, hjn, ha, hb, hk⟩ := hrel
    have HA := Lib.hid ha
    have HB := Lib.hid hb
    clear ha hb
    by_cases hlt : i < j
    · have n1 : (i : Int) < (j : Int) := by omega
      obtain ⟨h, hh⟩ : ∃ h, h = (i + j) / 2 := ⟨_, rfl⟩
      have hhi : i ≤ h := by omega
      have hhj : h < j := by omega
      have hhn : h < n := by omega
      have q0 : IntKind.i64.wrap ((i : Int) + (j : Int)) = (i : Int) + (j : Int) := IntWalk.i64_in _ (by omega)
      have q1 : IntKind.u64.wrap ((i : Int) + (j : Int)) = (i : Int) + (j : Int) := IntWalk.u64_in _ (by omega)
      have q2 : ((i : Int) + (j : Int)) / 2 = (h : Int) := by omega
      have q2' : ((i : Int) + (j : Int)) >>> 1 = (h : Int) := by rw [Int.shiftRight_eq_div_pow]; simpa using q2
      have q3 : IntKind.u64.wrap (h : Int) = (h : Int) := IntWalk.u64_in _ (by omega)
      have q4 : IntKind.i64.wrap (h : Int) = (h : Int) := IntWalk.i64_in _ (by omega)
      have q5 : IntKind.i64.wrap ((h : Int) + 1) = (h : Int) + 1 := IntWalk.i64_in _ (by omega)
      have p0 : (0 : Int) ≤ (h : Int) := by omega
      have p1 : (h : Int) < (n : Int) := by omega
      clear hh
      obtain ⟨bb, o, rfl⟩ := hS.at (by have := hS.cap; omega)
      have hl : ∀ j v, (ev h).cells.toList[j]? = some v → wr.cell? ⟨bb, o + h * 2 + j, none⟩ = some v := fun j v hj => by
        have := hk.cellSome (hS.cells rfl _ _ (HE.out h hhn j v hj)) (by simp)
        rw [addr_add rfl] at this
        simpa [Nat.add_assoc] using this
      go_wp2_with (refine wpList_load_runG rfl 64 _ rfl bb (o + h * 2) rfl (ev h).cells.toList hl _ Tryd.underlying64 rfl Tryd.sizePr ?_)
      refine (HC.out h hhn wr hk).mono ?_
      rintro e w2 ⟨rfl, hk2⟩
      have hk3 := hk.trans hk2
      clear hk hk2 hl
      by_cases hcm : cmpL (ks h) k = -1
      · have c1 : cmpL (ks h) k < 0 := by omega
        go_wp2_with fail
        go_roundw
        case rel => exact ⟨h + 1, j, by go_num, rfl, by omega, hjn, fun a hah => by
            rcases Nat.lt_or_ge a h with h1 | h1
            · exact HM.out a h h1 hhn hcm
            · obtain rfl : a = h := by omega
              exact hcm, HB.out, hk3⟩
        case measure => simp [intOf]; omega
      · have c1 : ¬ cmpL (ks h) k < 0 := by have := cmpL_range (ks h) k; omega
        go_wp2_with fail
        go_roundw
        case rel => exact ⟨i, h, rfl, rfl, hhi, by omega, HA.out, fun a hah han hca => by
            rcases Nat.eq_or_lt_of_le hah with h1 | h1
            · subst h1; exact hcm hca
            · exact hcm (HM.out h a h1 han hca), hk3⟩
        case measure => simp [intOf]; omega
    · have n1 : ¬ ((i : Int) < (j : Int)) := by omega
      obtain rfl : i = j := by omega
      by_cases hin : i < n
      · have p1 : (i : Int) < (n : Int) := by omega
        have p0 : (0 : Int) ≤ (i : Int) := by omega
        obtain ⟨bb, o, rfl⟩ := hS.at (by have := hS.cap; omega)
        have hl : ∀ j v, (ev i).cells.toList[j]? = some v → wr.cell? ⟨bb, o + i * 2 + j, none⟩ = some v := fun j v hj => by
          have := hk.cellSome (hS.cells rfl _ _ (HE.out i hin j v hj)) (by simp)
          rw [addr_add rfl] at this
          simpa [Nat.add_assoc] using this
        go_wp2_with (refine wpList_load_runG rfl 64 _ rfl bb (o + i * 2) rfl (ev i).cells.toList hl _ Tryd.underlying64 rfl Tryd.sizePr ?_)
        refine (HC.out i hin wr hk).mono ?_
        rintro e w2 ⟨rfl, hk2⟩
        have hk3 := hk.trans hk2
        go_wp2_with fail
        go_ret2
        refine ⟨i, hjn, HA.out, HB.out, ?_, hk3⟩
        simp [hin]
      · have p1 : ¬ ((i : Int) < (n : Int)) := by omega
        go_wp2_with fail
        go_ret2
        refine ⟨i, hjn, HA.out, HB.out, ?_, hk⟩
        simp [hin]
end Go.Proofs.YtknnhnpcgefchaaDoor
