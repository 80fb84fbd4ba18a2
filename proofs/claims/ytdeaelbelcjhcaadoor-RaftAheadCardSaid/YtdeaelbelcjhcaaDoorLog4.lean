/- The log's methods, one contract each: New, Entries. -/
import Derived.Test.YtdeaelbelcjhcaaDoorLog3
import Derived.Deep.DeepCutAuto
import Derived.Deep.CutBlock

namespace Go.Proofs.YtdeaelbelcjhcaaDoor
open Go.RowKit

theorem ens_ne {l : List En} (h : l ≠ []) : ens l ≠ [] := by
  cases l with
  | nil => exact absurd rfl h
  | cons e l => simp [ens, En.cells]

set_option maxRecDepth 100000 in
set_option maxHeartbeats 1000000 in
theorem lnew (base tm : Int) (ao : Option Addr) (n c : Nat) (es : List En) (w : World) (hn : n = es.length) (h : Sl w 5 ao n c (ens es)) (hle : es.length ≤ 1000000) :
    Calls Tryd.prog 6 #[.int .u64 base, .int .u64 tm, .slice ao n c] w fun e w' => ∃ b, e = .returned (.pointer (some ⟨b, 0, none⟩)) ∧ w.heap.size ≤ b ∧ LogAt w' b ⟨base, tm, es⟩ ∧ Keeps [] w w' := by
  subst hn
  go_enter Tryd.func6, Tryd.ntmps6
  go_wp2_with fail
  refine (clone_any ao _ c (ens es) _ h hle).mono ?_
  rintro e w1 ⟨ao', c', rfl, hS, hb, hk⟩
  go_wp2
  go_ret
  have hk1 := (Keeps.refl [] w1).alloc (.cells #[.int .u64 base, .int .u64 tm, .slice ao' es.length c'] 71)
  refine ⟨_, rfl, hk.size, ⟨ao', c', Blk.fresh _ _ _, hS.keep0 hk1, ?_⟩, hk.trans hk1⟩
  intro ad ha hne
  have := hS.lt ha (ens_ne hne)
  simp only [ne_eq]
  omega

set_option maxRecDepth 100000 in
set_option maxHeartbeats 2000000 in
theorem lentries (b : Nat) (g : Lg) (i most : Int) (w : World) (h : LogAt w b g) (h0 : 0 ≤ g.base) (h1 : g.last < 1000000) (hm : most < 1000000000) :
    Calls Tryd.prog 57 #[.pointer (some ⟨b, 0, none⟩), .int .u64 i, .int .i64 most] w fun e w' => ∃ ao c, e = .returned (.slice ao (g.part i most).length c) ∧ Sl w' 5 ao (g.part i most).length c (ens (g.part i most)) ∧ Keeps [] w w' := by
  have h' := h
  obtain ⟨ao, c, hB, hS, _⟩ := h'
  have hc := hB.cell
  have hl := hB.lt
  have hlast : g.last = g.base + (g.es.length : Int) := rfl
  have k1 : IntKind.u64.wrap (g.base + 1) = g.base + 1 := IntWalk.u64_in _ (by omega)
  have emp : ∀ W, g.part i most = [] → Keeps [] w W → ∃ ao c, Ending.returned (Value.slice none 0 0) = Ending.returned (.slice ao (g.part i most).length c) ∧ Sl W 5 ao (g.part i most).length c (ens (g.part i most)) ∧ Keeps [] w W := by
    intro W e hk
    rw [e]
    exact ⟨none, 0, rfl, Sl.none _ _, hk⟩
  go_enter Tryd.func57, Tryd.ntmps57
  go_upto_region 1 with (fail)
  go_cut [1] (fun v wx => v = .int .u64 (max i (g.base + 1)) ∧ wx = w)
  case first =>
    go_wp2_with fail
    all_goals (go_meet; exact ⟨by congr 1; omega, rfl⟩)
  case rest =>
  obtain ⟨rfl, rfl⟩ := hcut
  generalize hf : max i (g.base + 1) = f
  have hf0 : g.base + 1 ≤ f := by omega
  by_cases hm1 : most < 1
  · have ep : g.part i most = [] := by
      unfold Lg.part
      rw [show most.toNat = 0 by omega, List.take_zero]
    go_wp2
    go_ret
    exact emp _ ep (Keeps.refl _ _)
  · go_wp2_with fail
    refine (llast b g _ h h0 (by omega)).mono ?_
    rintro e w1 ⟨rfl, hk1⟩
    by_cases hgt : g.last < f
    · have ep : g.part i most = [] := by
        unfold Lg.part
        rw [List.drop_eq_nil_of_le (by omega), List.take_nil]
      go_wp2
      go_ret
      exact emp _ ep hk1
    · clear hc
      have hS1 := hS.keep0 hk1
      have hc := (hB.keep hk1 (by simp)).cell
      have hl1 := (hB.keep hk1 (by simp)).lt
      obtain ⟨k, hk⟩ : ∃ k : Nat, f - g.base - 1 = (k : Int) := ⟨(f - g.base - 1).toNat, by omega⟩
      obtain ⟨m, hme⟩ : ∃ m : Nat, most = (m : Int) := ⟨most.toNat, by omega⟩
      have hkl : k < g.es.length := by omega
      have hkl' : (k : Int) ≤ (g.es.length : Int) := by omega
      have k2 : IntKind.u64.wrap (f - g.base) = f - g.base := IntWalk.u64_in _ (by omega)
      have k3 : IntKind.u64.wrap (f - g.base - 1) = (k : Int) := by rw [hk]; exact IntWalk.u64_in _ (by omega)
      have hS2 := hS1.drop (k := k) (by omega)
      have hcap := hS.cap
      go_wp2_with fail
      go_quiet (fail)
      go_upto_region 5 with (fail)
      subst hme
      rw [if_neg (by omega : ¬ c = k)] at hS2
      generalize (Option.map (fun x => Addr.add x (k * 5)) ao) = ao2 at *
      have hS3 := hS2.keep0 ((Keeps.refl [] w1).drewN nq)
      generalize hW : w1.drewN nq = w2 at *
      have hk2 : Keeps [] wc w2 := by rw [← hW]; exact hk1.drewN _
      clear hW hS2 hS1 hS hc k2 k3
      have fin : ∀ n, n ≤ g.es.length - k → n = min m (g.es.length - k) → Calls Tryd.prog 18 #[.slice ao2 n (c - k)] w2 fun e w' => ∃ ao c, e = .returned (.slice ao (g.part i ↑m).length c) ∧ Sl w' 5 ao (g.part i ↑m).length c (ens (g.part i ↑m)) ∧ Keeps [] wc w' := by
        intro n hn hn'
        have ep : g.part i ↑m = (g.es.drop k).take n := by
          unfold Lg.part
          rw [hf, hk]
          simp only [Int.toNat_natCast]
          rcases Nat.le_total m (g.es.length - k) with h | h
          · rw [show n = m by omega]
          · rw [List.take_of_length_le (by simp; omega), List.take_of_length_le (by simp; omega)]
        have el : (g.part i ↑m).length = n := by rw [ep]; simp; omega
        rw [el, ep]
        refine (clone_any ao2 n (c - k) _ w2 (hS3.take hn (by omega) (Nat.le_refl _)) (by omega)).mono ?_
        rintro e w3 ⟨ao', c', rfl, hS', _, hk'⟩
        refine ⟨ao', c', rfl, ?_, hk2.trans hk'⟩
        rw [ens_take, ens_drop]
        exact hS'
      have hid := Lib.hid fin
      have hL1 : g.es.length - k ≤ c - k := by omega
      have hL2 : g.es.length - k ≤ 1000000 := by omega
      clear fin hS3 hk hkl hkl' hcap hf0 hgt hf hlast k1 emp
      generalize g.es.length - k = Ln at *
      generalize c - k = Cn at *
      rcases Nat.lt_trichotomy m Ln with hmin | rfl | hmin
      · go_wp2_with fail
        refine (hid.out m (by omega) (by omega)).mono ?_
        rintro e w3 ⟨ao', c', rfl, hS', hk'⟩
        go_wp2
        go_ret
        exact ⟨ao', c', rfl, hS', hk'⟩
      · go_wp2_with fail
        refine (hid.out m (by omega) (by omega)).mono ?_
        rintro e w3 ⟨ao', c', rfl, hS', hk'⟩
        go_wp2
        go_ret
        exact ⟨ao', c', rfl, hS', hk'⟩
      · go_wp2_with fail
        refine (hid.out Ln (by omega) (by omega)).mono ?_
        rintro e w3 ⟨ao', c', rfl, hS', hk'⟩
        go_wp2
        go_ret
        exact ⟨ao', c', rfl, hS', hk'⟩
end Go.Proofs.YtdeaelbelcjhcaaDoor
