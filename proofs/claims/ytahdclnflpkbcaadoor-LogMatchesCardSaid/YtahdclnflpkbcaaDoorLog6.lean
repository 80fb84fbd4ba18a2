/- The log's methods, one contract each: lacks. -/
import Derived.Test.YtahdclnflpkbcaaDoorLog4
import Derived.Deep.RegionLaw

namespace Go.Proofs.YtahdclnflpkbcaaDoor
open Go.RowKit

set_option maxRecDepth 100000 in
set_option maxHeartbeats 4000000 in
theorem llacks_a (b : Nat) (g : Lg) (prev term : Int) (w : World) (h : LogAt w b g) (h0 : 0 ≤ g.base) (h1 : g.last < 1000000) (hp : g.last < prev) :
    Calls Tryd.prog 29 #[.pointer (some ⟨b, 0, none⟩), .int .u64 prev, .int .u64 term] w fun e w' => ∃ ev, e = .returned (.tuple #[.int .u64 g.last, ev]) ∧ ErrIs w' ev 52 ∧ ev ≠ .nilIface ∧ Keeps [] w w' := by
  have hl := h.lt
  go_enter Tryd.func29, Tryd.ntmps29
  go_wp2_with fail
  refine (lterm_no b g prev w h h0 (by omega) (.inr hp)).mono ?_
  rintro e w1 ⟨gg, p, rfl, hE, hk1⟩
  have h2 := h.keep0 hk1
  go_wp2_with fail
  refine (is_within gg 40 w1 (hE.cell 1)).mono ?_
  rintro e w' ⟨rfl, rfl⟩
  go_wp2_with fail
  refine (llast b g _ h2 h0 (by omega)).mono ?_
  rintro e w2 ⟨rfl, hk2⟩
  go_wp2_with fail
  refine (lfault _ _ _).mono ?_
  rintro e w3 ⟨gg, rfl, rfl, hE3, hk3⟩
  go_wp2
  go_ret2
  exact ⟨_, rfl, .inr ⟨_, _, rfl, hE3⟩, by simp, (hk1.trans hk2).trans hk3⟩

set_option maxRecDepth 100000 in
set_option maxHeartbeats 4000000 in
theorem llacks_ok (b : Nat) (g : Lg) (prev term : Int) (w : World) (h : LogAt w b g) (h0 : 0 ≤ g.base) (h1 : g.last < 1000000) (hp0 : g.base ≤ prev) (hp : prev ≤ g.last) (ht : g.at prev = term) :
    Calls Tryd.prog 29 #[.pointer (some ⟨b, 0, none⟩), .int .u64 prev, .int .u64 term] w fun e w' => e = .returned (.tuple #[.int .u64 0, .nilIface]) ∧ Keeps [] w w' := by
  subst ht
  have hl := h.lt
  go_enter Tryd.func29, Tryd.ntmps29
  go_wp2_with fail
  refine (lterm_ok b g prev w h h0 (by omega) hp0 hp).mono ?_
  rintro e w1 ⟨rfl, hk1⟩
  go_wp2_with fail
  refine (is_nil 40 w1).mono ?_
  rintro e w' ⟨rfl, rfl⟩
  go_wp2_with fail
  go_ret2
  exact ⟨rfl, hk1⟩

set_option maxRecDepth 100000 in
set_option maxHeartbeats 4000000 in
theorem llacks_b (b : Nat) (g : Lg) (prev term : Int) (w : World) (h : LogAt w b g) (h0 : 0 ≤ g.base) (h1 : g.last < 1000000) (hp0 : g.base < prev) (hp : prev ≤ g.last) (ht : g.at prev ≠ term) :
    Calls Tryd.prog 29 #[.pointer (some ⟨b, 0, none⟩), .int .u64 prev, .int .u64 term] w fun e w' => ∃ ev, e = .returned (.tuple #[.int .u64 (prev - 1), ev]) ∧ ErrIs w' ev 52 ∧ ev ≠ .nilIface ∧ Keeps [] w w' := by
  have hl := h.lt
  generalize htt : g.at prev = tt at ht
  go_enter Tryd.func29, Tryd.ntmps29
  go_wp2_with fail
  refine (lterm_ok b g prev w h h0 (by omega) (by omega) hp).mono ?_
  rintro e w1 ⟨rfl, hk1⟩
  rw [htt]
  have h2 := h.keep0 hk1
  go_wp2_with fail
  refine (is_nil 40 w1).mono ?_
  rintro e w' ⟨rfl, rfl⟩
  obtain ⟨ao, c, hB, _, _⟩ := h2
  have hc := hB.cell
  have hl1 := hB.lt
  have k1 : IntKind.u64.wrap (g.base + 1) = g.base + 1 := IntWalk.u64_in _ (by omega)
  have k2 : IntKind.u64.wrap (prev - 1) = prev - 1 := IntWalk.u64_in _ (by omega)
  have k4 : IntKind.u64.wrap ((if prev < g.base + 1 then g.base + 1 else prev) - 1) = prev - 1 := by rw [if_neg (by omega)]; exact k2
  have hBd := hB.drew
  clear h htt
  go_wp2_with fail
  go_region_law (first | (go_simp; go_at_call 28; refine (lfault _ _ _).mono ?_; rintro e w3 ⟨gg, rfl, rfl, hE3, hk3⟩; have hc3 := (hBd.keep hk3 (by simp)).cell; have hl3 := (hBd.keep hk3 (by simp)).lt))
  all_goals
    go_wp2
    go_ret2
    exact ⟨_, by first | rfl | exact congrArg (fun z => Ending.returned (.tuple #[.int .u64 z, _])) k4, .inr ⟨_, _, rfl, hE3⟩, by simp, (hk1.drew.trans hk3)⟩
end Go.Proofs.YtahdclnflpkbcaaDoor
