/- The log's methods, one contract each: slices.Clone of entries, New, Entries. -/
import Derived.Test.YtdeaelbelcjhcaaDoorLog2
import Derived.Lib.SliceRun

namespace Go.Proofs.YtdeaelbelcjhcaaDoor
open Go.RowKit

theorem Tryd.infoE : (Tryd.prog.info? 69).map (fun i => (i.size, i.bytes, (i.zero.map fun z => z.cells.size))) = some (5, 48, some 5) := by kernel_rfl
theorem infoE : ∃ i z, Tryd.prog.info? 69 = some i ∧ i.zero = some z ∧ i.size = 5 ∧ i.bytes = 48 ∧ z.cells.size = 5 := by
  have h := Tryd.infoE
  obtain ⟨i, hi, hx⟩ := Option.map_eq_some_iff.1 h
  simp only [Prod.mk.injEq] at hx
  obtain ⟨z, hz, hc⟩ := Option.map_eq_some_iff.1 hx.2.2
  exact ⟨i, z, hi, hz, hx.1, hx.2.1, hc⟩

theorem sl_fresh0 {w : World} (sz b o : Nat) : Sl w sz (some ⟨b, o, none⟩) 0 0 [] :=
  ⟨by simp, Nat.le_refl _, Nat.zero_le _, fun e => by simp at e, fun _ ad e => by cases e; rfl, fun _ _ _ _ hj => by simp at hj, fun _ hj => by simp at hj⟩

set_option maxRecDepth 100000 in
set_option maxHeartbeats 1000000 in
theorem clone_any (ao : Option Addr) (n c : Nat) (xs : List Value) (w : World) (h : Sl w 5 ao n c xs) (hn : n ≤ 1000000) :
    Calls Tryd.prog 18 #[.slice ao n c] w fun e w' => ∃ ao' c', e = .returned (.slice ao' n c') ∧ Sl w' 5 ao' n c' xs ∧ (∀ ad, ao' = some ad → w.heap.size ≤ ad.block) ∧ Keeps [] w w' := by
  obtain ⟨i, z, hi, hz, hsz, hby, hzc⟩ := infoE
  have q := fun (W : World) (a : Option Addr) (n c n' c' : Nat) => Lib.run_eql_slice_nil (P := Tryd.prog) W 39 _ a n c n' c' Tryd.underlying39
  cases ao with
  | none =>
    obtain rfl := h.nil rfl
    obtain rfl : n = 0 := by have := h.cap; omega
    obtain rfl : xs = [] := List.eq_nil_of_length_eq_zero (by simpa using h.len)
    go_enter Tryd.func18, Tryd.ntmps18
    go_wp2
    go_ret
    exact ⟨_, _, rfl, Sl.none _ _, fun _ e => by simp at e, Keeps.refl _ _⟩
  | some ad =>
    have hk0 := (Keeps.refl [] w).alloc (.cells #[] 69)
    rcases Nat.eq_zero_or_pos n with rfl | hpos
    · obtain rfl : xs = [] := List.eq_nil_of_length_eq_zero (by simpa using h.len)
      go_enter Tryd.func18, Tryd.ntmps18
      go_wp2_with (at_builtin; refine wpList_append_zero _ rfl _ _ 39 rfl 69 i Tryd.underlying39 hi _ 0 0 rfl (Nat.le_refl _) _ _ rfl ?_)
      go_ret
      exact ⟨_, _, rfl, sl_fresh0 5 _ _, fun _ e => by cases e; exact Nat.le_refl _, hk0⟩
    · have h1 := h.keep0 hk0
      go_enter Tryd.func18, Tryd.ntmps18
      go_wp2_with (at_builtin; refine wpList_append_sl _ rfl _ _ 39 rfl 69 i z 5 48 Tryd.underlying39 hi hz hsz hby hzc (by decide) _ 0 0 [] rfl (sl_fresh0 5 _ _) _ n c xs rfl h1 (by omega) (by unfold maxLen; omega) (by omega) ?_; intro ao' c' w' hS' hb' hk')
      go_ret
      refine ⟨ao', c', by simp, by simpa using hS', fun ad e => by have := (hb' ad e).1; have := hk0.size; omega, hk0.trans hk'⟩
end Go.Proofs.YtdeaelbelcjhcaaDoor
