/- Contracts that only draw: Term of the base, Last, Newer. -/
import Derived.Test.YtdeaelbelcjhcaaDoorRaft8

namespace Go.Proofs.YtdeaelbelcjhcaaDoor
open Go.RowKit

set_option maxHeartbeats 1000000 in
theorem lterm_q0 (b : Nat) (g : Lg) (w : World) (h : LogAt w b g) (h0 : 0 ≤ g.base) (h1 : g.last < 4611686018427387904) :
    Calls Tryd.prog 31 #[.pointer (some ⟨b, 0, none⟩), .int .u64 g.base] w fun e w' => e = .returned (.tuple #[.int .u64 g.tm, .nilIface]) ∧ ∃ m, w' = w.drewN m := by
  have h' := h
  obtain ⟨ao, c, hB, hS, _⟩ := h'
  have hc := hB.cell
  have hl := hB.lt
  have LL := llast_q b g w h h0 h1
  go_enter Tryd.func31, Tryd.ntmps31
  go_wp2_with fail
  refine LL.mono ?_
  rintro e w1 ⟨rfl, m, rfl⟩
  clear LL hc
  have hB1 := hB.drewN m
  generalize hW : w.drewN m = w1 at *
  have hc := hB1.cell
  have hl1 := hB1.lt
  have hno : ¬ (g.last < g.base) := by unfold Lg.last; omega
  go_wp2
  go_ret2
  exact ⟨rfl, _, hW.symm⟩

theorem lterm_any (b : Nat) (g : Lg) (i : Int) (w : World) (h : LogAt w b g) (h0 : 0 ≤ g.base) (h1 : g.last < 4611686018427387904) (hi0 : g.base ≤ i) (hi1 : i ≤ g.last) :
    Calls Tryd.prog 31 #[.pointer (some ⟨b, 0, none⟩), .int .u64 i] w fun e w' => e = .returned (.tuple #[.int .u64 (g.at i), .nilIface]) ∧ ∃ m, w' = w.drewN m := by
  by_cases hb : i = g.base
  · subst hb
    have e : g.at g.base = g.tm := g.at_base
    rw [e]
    exact lterm_q0 b g w h h0 h1
  · exact lterm_q b g i w h h0 h1 (by omega) hi1

theorem llastt_q (b : Nat) (g : Lg) (w : World) (h : LogAt w b g) (h0 : 0 ≤ g.base) (h1 : g.last < 4611686018427387904) :
    Calls Tryd.prog 36 #[.pointer (some ⟨b, 0, none⟩)] w fun e w' => e = .returned (.tuple #[.int .u64 g.last, .int .u64 (g.at g.last)]) ∧ ∃ m, w' = w.drewN m := by
  have hl := h.lt
  go_enter Tryd.func36, Tryd.ntmps36
  go_wp2_with fail
  refine (llast_q b g w h h0 h1).mono ?_
  rintro e w1 ⟨rfl, m1, rfl⟩
  have h2 := h.keep0 ((Keeps.refl [] w).drewN m1)
  go_wp2_with fail
  refine (lterm_any b g g.last _ h2 h0 h1 (by unfold Lg.last; omega) (Int.le_refl _)).mono ?_
  rintro e w2 ⟨rfl, m2, rfl⟩
  have h3 := h.keep0 ((Keeps.refl [] w).drewN (m1 + m2))
  go_wp2_with fail
  refine (llast_q b g _ h3 h0 h1).mono ?_
  rintro e w3 ⟨rfl, m3, rfl⟩
  go_wp2
  go_ret2
  exact ⟨rfl, m1 + m2 + m3, rfl⟩

/-- is a log's end at least as new? -/
def Lg.newer (g : Lg) (ix lt : Int) : Bool := decide (g.at g.last < lt) || (lt == g.at g.last && decide (g.last ≤ ix))

theorem lnewer_q (b : Nat) (g : Lg) (ix lt : Int) (w : World) (h : LogAt w b g) (h0 : 0 ≤ g.base) (h1 : g.last < 4611686018427387904) :
    Calls Tryd.prog 42 #[.pointer (some ⟨b, 0, none⟩), .int .u64 ix, .int .u64 lt] w fun e w' => e = .returned (.bool (g.newer ix lt)) ∧ ∃ m, w' = w.drewN m := by
  have hl := h.lt
  go_enter Tryd.func42, Tryd.ntmps42
  go_wp2_with fail
  refine (llastt_q b g w h h0 h1).mono ?_
  rintro e w1 ⟨rfl, m1, rfl⟩
  go_wp2
  all_goals
    go_ret
    exact ⟨by unfold Lg.newer; simp_all, m1, rfl⟩
end Go.Proofs.YtdeaelbelcjhcaaDoor
