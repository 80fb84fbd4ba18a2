/- Contracts that only draw: last, Term; a region whose order is open between two operations; slices.Clip of reads. -/
import Derived.Test.YtdeaelbelcjhcaaDoorRaft7

namespace Go.Proofs.YtdeaelbelcjhcaaDoor
open Go.RowKit

theorem drewN_drewN (w : World) (m n : Nat) : (w.drewN m).drewN n = w.drewN (m + n) := by simp [World.drewN, Nat.add_assoc]

theorem llast_q (b : Nat) (g : Lg) (w : World) (h : LogAt w b g) (h0 : 0 ≤ g.base) (h1 : g.last < 4611686018427387904) :
    Calls Tryd.prog 48 #[.pointer (some ⟨b, 0, none⟩)] w fun e w' => e = .returned (.int .u64 g.last) ∧ ∃ m, w' = w.drewN m := by
  obtain ⟨ao, c, hB, hS, _⟩ := h
  have hc := hB.cell
  have hl := hB.lt
  unfold Lg.last at *
  have k1 : IntKind.u64.wrap (g.es.length : Int) = g.es.length := IntWalk.u64_in _ (by omega)
  have k2 : IntKind.u64.wrap (g.base + (g.es.length : Int)) = g.base + g.es.length := IntWalk.u64_in _ (by omega)
  go_enter Tryd.func48, Tryd.ntmps48
  go_wp2
  go_quiet (fail)
  go_wp2
  go_ret
  exact ⟨rfl, _, rfl⟩

set_option maxHeartbeats 1000000 in
theorem lterm_q (b : Nat) (g : Lg) (i : Int) (w : World) (h : LogAt w b g) (h0 : 0 ≤ g.base) (h1 : g.last < 4611686018427387904) (hi0 : g.base < i) (hi1 : i ≤ g.last) :
    Calls Tryd.prog 31 #[.pointer (some ⟨b, 0, none⟩), .int .u64 i] w fun e w' => e = .returned (.tuple #[.int .u64 (g.at i), .nilIface]) ∧ ∃ m, w' = w.drewN m := by
  have h' := h
  obtain ⟨ao, c, hB, hS, _⟩ := h'
  have hc := hB.cell
  have hl := hB.lt
  have LL := llast_q b g w h h0 h1
  go_enter Tryd.func31, Tryd.ntmps31
  go_wp2_with fail
  refine LL.mono ?_
  rintro e w1 ⟨rfl, m, rfl⟩
  clear LL hc
  have hB1 := hB.drewN m
  have hS1 := hS.keep0 ((Keeps.refl [] w).drewN m)
  generalize hW : w.drewN m = w1 at *
  have hc := hB1.cell
  have hl1 := hB1.lt
  obtain ⟨bb, o, en, j, hj, hjl, rfl, hen, hat, hce⟩ := LogAt.entry hS1 hi0 hi1
  unfold Lg.last at *
  have k1 : IntKind.u64.wrap (i - g.base) = i - g.base := IntWalk.u64_in _ (by omega)
  have k2 : IntKind.u64.wrap (i - g.base - 1) = (j : Int) := by rw [hj]; exact IntWalk.u64_in _ (by omega)
  have hne : ¬ (i = g.base) := by omega
  have kB : (j : Int) < (g.es.length : Int) := by omega
  clear hj hen
  have hat' := Lib.hid hat
  clear hat
  have hcell := hce 0 (.int .u64 en.term) rfl
  simp only [Nat.add_zero] at hcell
  go_wp2
  go_quiet (fail)
  go_wp2
  go_ret2
  exact ⟨by rw [hat'.out]; rfl, _, by rw [← hW, drewN_drewN]⟩

section
variable {P : Program} {ops : Array Oper} {Q : Exit → Act → World → Prop} {md : Region.Mode} {S : World → Prop} {n0 : Nat}
/-- one of two may come up -/
theorem twoT {i j : Nat} {oi oj : Oper} {f : Nat} {listed : Array Bool} {a : Act} {w : World} (hi : ops[i]? = some oi) (hj : ops[j]? = some oj) (hr : Region.ready md ops listed = [i, j])
    (h : ∀ K : Act → World → Prop, (∀ a' w', (i < n0 → S w') → wpAnyT P md ops Q S n0 f (listed.setIfInBounds i true) a' w' → K a' w') → if Region.wanted oi (yielded ops a.tmps) = true then oi.wp P a w K Q else K (a.put oi.dst undef) w)
    (h' : ∀ K : Act → World → Prop, (∀ a' w', (j < n0 → S w') → wpAnyT P md ops Q S n0 f (listed.setIfInBounds j true) a' w' → K a' w') → if Region.wanted oj (yielded ops a.tmps) = true then oj.wp P a w K Q else K (a.put oj.dst undef) w) :
    wpAnyT P md ops Q S n0 (f + 1) listed a w := by
  have one : ∀ (k : Nat) (ok : Oper), ops[k]? = some ok → (∀ K : Act → World → Prop, (∀ a' w', (k < n0 → S w') → wpAnyT P md ops Q S n0 f (listed.setIfInBounds k true) a' w' → K a' w') → if Region.wanted ok (yielded ops a.tmps) = true then ok.wp P a w K Q else K (a.put ok.dst undef) w) →
      wpOp P ops Q k (fun a' w' => (k < n0 → S w') ∧ wpAnyT P md ops Q S n0 f (listed.setIfInBounds k true) a' w') a w := by
    intro k ok hk hh
    have h1 := hh _ (fun a' w' h1 h2 => And.intro h1 h2)
    unfold wpOp
    simp only [hk]
    split
    · rename_i hw
      rw [if_pos hw] at h1
      exact .inl h1
    · rename_i hw
      rw [if_neg hw] at h1
      exact h1
  refine ⟨fun h0 => absurd h0 (by rw [hr]; simp), fun k hk => ?_⟩
  rw [hr] at hk
  simp only [List.mem_cons, List.not_mem_nil, or_false] at hk
  rcases hk with rfl | rfl
  · exact one _ _ hi h
  · exact one _ _ hj h'
end

theorem rclip0 (ao : Option Addr) (c : Nat) (w : World) :
    Calls Tryd.prog 32 #[.slice ao 0 c] w fun e w' => e = .returned (.slice ao 0 0) ∧ w' = w := by
  go_enter Tryd.func32, Tryd.ntmps32
  go_wp2
  go_ret
  exact ⟨rfl, rfl⟩
end Go.Proofs.YtdeaelbelcjhcaaDoor
