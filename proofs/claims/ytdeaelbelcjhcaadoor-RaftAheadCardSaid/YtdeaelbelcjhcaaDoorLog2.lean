/- The log's methods, one contract each: Term, Last. -/
import Derived.Test.YtdeaelbelcjhcaaDoorLog1

namespace Go.Proofs.YtdeaelbelcjhcaaDoor
open Go.RowKit

theorem Lg.at_base (g : Lg) : g.at g.base = g.tm := by simp [Lg.at]

/-- the entry of an index behind the base -/
theorem LogAt.entry {w : World} {g : Lg} {ao : Option Addr} {c : Nat} (hS : Sl w 5 ao g.es.length c (ens g.es)) {i : Int} (h0 : g.base < i) (h1 : i ≤ g.last) :
    ∃ bb o e, ∃ j : Nat, i - g.base - 1 = (j : Int) ∧ j < g.es.length ∧ ao = some ⟨bb, o, none⟩ ∧ g.es[j]? = some e ∧ g.at i = e.term ∧ (∀ r v, e.cells[r]? = some v → w.cell? ⟨bb, o + j * 5 + r, none⟩ = some v) := by
  unfold Lg.last at h1
  obtain ⟨bb, o, rfl⟩ := hS.at (by have := hS.cap; omega)
  have hlt : (i - g.base - 1).toNat < g.es.length := by omega
  refine ⟨bb, o, g.es[(i - g.base - 1).toNat], (i - g.base - 1).toNat, by omega, hlt, rfl, List.getElem?_eq_getElem hlt, ?_, ?_⟩
  · have hn : ¬ (i = g.base) := by omega
    simp only [Lg.at, if_neg hn, List.getElem?_eq_getElem hlt]
    rfl
  · intro r v hv
    have hr : r < 5 := by
      rcases Nat.lt_or_ge r 5 with h | h
      · exact h
      · rw [List.getElem?_eq_none (by simpa [En.cells] using h)] at hv
        cases hv
    have := hS.cell _ rfl ((i - g.base - 1).toNat * 5 + r) v (by rw [ens_at _ _ _ (List.getElem?_eq_getElem hlt) r hr]; exact hv)
    simpa [Nat.add_assoc] using this

theorem LogAt.keep {w w' : World} {b : Nat} {g : Lg} {L : List Nat} (h : LogAt w b g) (hk : Keeps L w w') (hb : b ∉ L) (hL : ∀ ao c, w.cell? ⟨b, 2, none⟩ = some (.slice ao g.es.length c) → ∀ ad, ao = some ad → g.es ≠ [] → ad.block ∉ L) : LogAt w' b g := by
  obtain ⟨ao, c, hB, hS, hn⟩ := h
  refine ⟨ao, c, hB.keep hk hb, hS.keep hk ?_, hn⟩
  intro ad ha hx
  exact hL ao c (by rw [hB.cell]; rfl) ad ha (by rintro e; rw [e] at hx; exact hx rfl)

theorem LogAt.keep0 {w w' : World} {b : Nat} {g : Lg} (h : LogAt w b g) (hk : Keeps [] w w') : LogAt w' b g := h.keep hk (by simp) (fun _ _ _ _ _ _ => by simp)
theorem LogAt.lt {w : World} {b : Nat} {g : Lg} (h : LogAt w b g) : b < w.heap.size := by
  obtain ⟨_, _, hB, _⟩ := h
  exact hB.lt

set_option maxHeartbeats 1000000 in
theorem lterm_ok (b : Nat) (g : Lg) (i : Int) (w : World) (h : LogAt w b g) (h0 : 0 ≤ g.base) (h1 : g.last < 4611686018427387904) (hi0 : g.base ≤ i) (hi1 : i ≤ g.last) :
    Calls Tryd.prog 31 #[.pointer (some ⟨b, 0, none⟩), .int .u64 i] w fun e w' => e = .returned (.tuple #[.int .u64 (g.at i), .nilIface]) ∧ Keeps [] w w' := by
  have h' := h
  obtain ⟨ao, c, hB, hS, _⟩ := h'
  have hc := hB.cell
  have hl := hB.lt
  have LL := llast b g w h h0 h1
  go_enter Tryd.func31, Tryd.ntmps31
  go_wp2_with fail
  refine LL.mono ?_
  rintro e w1 ⟨rfl, hk1⟩
  clear LL hc
  have hB1 := hB.keep hk1 (by simp)
  have hS1 := hS.keep0 hk1
  have hc := hB1.cell
  have hl1 := hB1.lt
  rcases (show g.base = i ∨ g.base < i by omega) with rfl | hlt
  · go_wp2
    go_ret2
    exact ⟨by rw [g.at_base]; rfl, hk1⟩
  · obtain ⟨bb, o, en, j, hj, hjl, rfl, hen, hat, hce⟩ := LogAt.entry hS1 hlt hi1
    unfold Lg.last at *
    have k1 : IntKind.u64.wrap (i - g.base) = i - g.base := IntWalk.u64_in _ (by omega)
    have k2 : IntKind.u64.wrap (i - g.base - 1) = (j : Int) := by rw [hj]; exact IntWalk.u64_in _ (by omega)
    have hne : ¬ (i = g.base) := by omega
    have kB : (j : Int) < (g.es.length : Int) := by omega
    clear hj hen
    have hat' := Lib.hid hat
    clear hat
    have hcell := hce 0 (.int .u64 en.term) rfl
    simp only [Nat.add_zero] at hcell
    go_wp2
    go_quiet (fail)
    go_wp2
    go_ret2
    exact ⟨by rw [hat'.out]; rfl, hk1.drewN _⟩

set_option maxHeartbeats 1000000 in
theorem lterm_no (b : Nat) (g : Lg) (i : Int) (w : World) (h : LogAt w b g) (h0 : 0 ≤ g.base) (h1 : g.last < 4611686018427387904) (hi : i < g.base ∨ g.last < i) :
    Calls Tryd.prog 31 #[.pointer (some ⟨b, 0, none⟩), .int .u64 i] w fun e w' => ∃ gg p, e = .returned (.tuple #[.int .u64 0, .iface 86 (.pointer (some ⟨gg, 0, none⟩))]) ∧ Blk w' gg 88 #[.string p, .iface 41 (.int .i64 40)] ∧ Keeps [] w w' := by
  have h' := h
  obtain ⟨ao, c, hB, hS, _⟩ := h'
  have hc := hB.cell
  have hl := hB.lt
  have LL := llast b g w h h0 h1
  by_cases hib : i < g.base
  · go_enter Tryd.func31, Tryd.ntmps31
    go_wp2_with fail
    refine (lfault _ _ _).mono ?_
    rintro e w1 ⟨gg, rfl, rfl, hE, hk1⟩
    go_wp2
    go_ret2
    exact ⟨_, _, rfl, hE, hk1⟩
  · have hil : g.last < i := by omega
    go_enter Tryd.func31, Tryd.ntmps31
    go_wp2_with fail
    refine LL.mono ?_
    rintro e w1 ⟨rfl, hk1⟩
    clear LL hc
    have hc := (hB.keep hk1 (by simp)).cell
    have hl1 := (hB.keep hk1 (by simp)).lt
    go_wp2_with fail
    refine (lfault _ _ _).mono ?_
    rintro e w2 ⟨gg, rfl, rfl, hE, hk2⟩
    go_wp2
    go_ret2
    exact ⟨_, _, rfl, hE, hk1.trans hk2⟩

theorem llastt (b : Nat) (g : Lg) (w : World) (h : LogAt w b g) (h0 : 0 ≤ g.base) (h1 : g.last < 4611686018427387904) :
    Calls Tryd.prog 36 #[.pointer (some ⟨b, 0, none⟩)] w fun e w' => e = .returned (.tuple #[.int .u64 g.last, .int .u64 (g.at g.last)]) ∧ Keeps [] w w' := by
  have hl := h.lt
  go_enter Tryd.func36, Tryd.ntmps36
  go_wp2_with fail
  refine (llast b g w h h0 h1).mono ?_
  rintro e w1 ⟨rfl, hk1⟩
  have h2 := h.keep0 hk1
  go_wp2_with fail
  refine (lterm_ok b g g.last w1 h2 h0 h1 (by unfold Lg.last; omega) (Int.le_refl _)).mono ?_
  rintro e w2 ⟨rfl, hk2⟩
  have h3 := h2.keep0 hk2
  go_wp2_with fail
  refine (llast b g w2 h3 h0 h1).mono ?_
  rintro e w3 ⟨rfl, hk3⟩
  go_wp2
  go_ret2
  exact ⟨rfl, (hk1.trans hk2).trans hk3⟩
end Go.Proofs.YtdeaelbelcjhcaaDoor
