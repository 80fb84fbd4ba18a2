/- Generic slices: Clone; contracts on lists of cells. -/
import Derived.Test.YtknnhnpcgefchaaDoorTr2
import Derived.Test.YtknnhnpcgefchaaDoorTr1

namespace Go.Proofs.YtknnhnpcgefchaaDoor
open Go.RowKit Go.Lib

theorem infoTP : ∃ i z, Tryd.prog.info? 64 = some i ∧ i.zero = some z ∧ i.size = 2 ∧ i.bytes = 48 ∧ z.cells.size = 2 ∧ ∀ v ∈ z.cells.toList, v.oneCell' = true := by
  have h : (Tryd.prog.info? 64).map (fun i => (i.size, i.bytes, (i.zero.map fun z => (z.cells.size, z.cells.toList.all Value.oneCell')))) = some (2, 48, some (2, true)) := by kernel_rfl
  obtain ⟨i, hi, hx⟩ := Option.map_eq_some_iff.1 h
  simp only [Prod.mk.injEq] at hx
  obtain ⟨z, hz, hc⟩ := Option.map_eq_some_iff.1 hx.2.2
  simp only [Prod.mk.injEq] at hc
  exact ⟨i, z, hi, hz, hx.1, hx.2.1, hc.1, fun v hv => List.all_eq_true.1 hc.2 v hv⟩
theorem infoTN : ∃ i z, Tryd.prog.info? 51 = some i ∧ i.zero = some z ∧ i.size = 1 ∧ i.bytes = 8 ∧ z.cells.size = 1 ∧ ∀ v ∈ z.cells.toList, v.oneCell' = true := by
  have h : (Tryd.prog.info? 51).map (fun i => (i.size, i.bytes, (i.zero.map fun z => (z.cells.size, z.cells.toList.all Value.oneCell')))) = some (1, 8, some (1, true)) := by kernel_rfl
  obtain ⟨i, hi, hx⟩ := Option.map_eq_some_iff.1 h
  simp only [Prod.mk.injEq] at hx
  obtain ⟨z, hz, hc⟩ := Option.map_eq_some_iff.1 hx.2.2
  simp only [Prod.mk.injEq] at hc
  exact ⟨i, z, hi, hz, hx.1, hx.2.1, hc.1, fun v hv => List.all_eq_true.1 hc.2 v hv⟩
theorem infoTB : ∃ i z, Tryd.prog.info? 5 = some i ∧ i.zero = some z ∧ i.size = 1 ∧ i.bytes = 1 ∧ z.cells.size = 1 ∧ ∀ v ∈ z.cells.toList, v.oneCell' = true := by
  have h : (Tryd.prog.info? 5).map (fun i => (i.size, i.bytes, (i.zero.map fun z => (z.cells.size, z.cells.toList.all Value.oneCell')))) = some (1, 1, some (1, true)) := by kernel_rfl
  obtain ⟨i, hi, hx⟩ := Option.map_eq_some_iff.1 h
  simp only [Prod.mk.injEq] at hx
  obtain ⟨z, hz, hc⟩ := Option.map_eq_some_iff.1 hx.2.2
  simp only [Prod.mk.injEq] at hc
  exact ⟨i, z, hi, hz, hx.1, hx.2.1, hc.1, fun v hv => List.all_eq_true.1 hc.2 v hv⟩
set_option maxRecDepth 100000 in
set_option maxHeartbeats 1000000 in
theorem cloneP (ao : Option Addr) (n c : Nat) (xs : List Value) (w : World) (h : Sl w 2 ao n c xs) (hn : n ≤ 1000000) :
    Calls Tryd.prog 33 #[.slice ao n c] w fun e w' => ∃ ao' c', e = .returned (.slice ao' n c') ∧ w'.ownsRow w.heap.size 64 2 (.slice ao' n c') n xs ∧ Keeps [] w w' := by
  obtain ⟨i, z, hi, hz, hsz, hby, hzc, _⟩ := infoTP
  have q := fun (W : World) (a : Option Addr) (n c n' c' : Nat) => Lib.run_eql_slice_nil (P := Tryd.prog) W 52 _ a n c n' c' Tryd.underlying52
  cases ao with
  | none =>
    obtain rfl := h.nil rfl
    obtain rfl : n = 0 := by have := h.cap; omega
    obtain rfl : xs = [] := List.eq_nil_of_length_eq_zero (by simpa using h.len)
    go_enter Tryd.func33, Tryd.ntmps33
    go_wp2
    go_ret
    exact ⟨_, _, rfl, World.ownsRow_nil _ _ _ _, Keeps.refl _ _⟩
  | some ad =>
    have hk0 := (Keeps.refl [] w).alloc (.cells #[] 64)
    have h1 := h.keep0 hk0
    have hO : (w.alloc (.cells #[] 64)).ownsRow w.heap.size 64 2 (.slice (some ⟨w.heap.size, 0, none⟩) 0 0) 0 [] := (Blk.fresh w 64 #[]).owns (Nat.le_refl _) rfl (Nat.le_refl _) (Nat.zero_le _) rfl
    go_enter Tryd.func33, Tryd.ntmps33
    go_wp2_with (at_builtin; refine wpList_append_by _ rfl _ _ 52 52 rfl w.heap.size 64 i z 2 48 Tryd.underlying52 hi hz hsz hby hzc (some ⟨w.heap.size, 0, none⟩) 0 0 [] rfl hO (.slice (some ad) n c) rfl n xs (h1.src Tryd.underlying52) (by unfold maxLen; omega) (by omega) hk0.size ?_; intro a2 c2 w2 hO2 hka hba)
    have hk2 := hk0.step hka (fun x hx => .inr (own_lt hO x hx).1)
    go_ret
    exact ⟨a2, c2, by simp, by simpa using hO2, hk2⟩
set_option maxRecDepth 100000 in
set_option maxHeartbeats 1000000 in
theorem cloneN (ao : Option Addr) (n c : Nat) (xs : List Value) (w : World) (h : Sl w 1 ao n c xs) (hn : n ≤ 1000000) :
    Calls Tryd.prog 37 #[.slice ao n c] w fun e w' => ∃ ao' c', e = .returned (.slice ao' n c') ∧ w'.ownsRow w.heap.size 51 1 (.slice ao' n c') n xs ∧ Keeps [] w w' := by
  obtain ⟨i, z, hi, hz, hsz, hby, hzc, _⟩ := infoTN
  have q := fun (W : World) (a : Option Addr) (n c n' c' : Nat) => Lib.run_eql_slice_nil (P := Tryd.prog) W 53 _ a n c n' c' Tryd.underlying53
  cases ao with
  | none =>
    obtain rfl := h.nil rfl
    obtain rfl : n = 0 := by have := h.cap; omega
    obtain rfl : xs = [] := List.eq_nil_of_length_eq_zero (by simpa using h.len)
    go_enter Tryd.func37, Tryd.ntmps37
    go_wp2
    go_ret
    exact ⟨_, _, rfl, World.ownsRow_nil _ _ _ _, Keeps.refl _ _⟩
  | some ad =>
    have hk0 := (Keeps.refl [] w).alloc (.cells #[] 51)
    have h1 := h.keep0 hk0
    have hO : (w.alloc (.cells #[] 51)).ownsRow w.heap.size 51 1 (.slice (some ⟨w.heap.size, 0, none⟩) 0 0) 0 [] := (Blk.fresh w 51 #[]).owns (Nat.le_refl _) rfl (Nat.le_refl _) (Nat.zero_le _) rfl
    go_enter Tryd.func37, Tryd.ntmps37
    go_wp2_with (at_builtin; refine wpList_append_by _ rfl _ _ 53 53 rfl w.heap.size 51 i z 1 8 Tryd.underlying53 hi hz hsz hby hzc (some ⟨w.heap.size, 0, none⟩) 0 0 [] rfl hO (.slice (some ad) n c) rfl n xs (h1.src Tryd.underlying53) (by unfold maxLen; omega) (by omega) hk0.size ?_; intro a2 c2 w2 hO2 hka hba)
    have hk2 := hk0.step hka (fun x hx => .inr (own_lt hO x hx).1)
    go_ret
    exact ⟨a2, c2, by simp, by simpa using hO2, hk2⟩
set_option maxRecDepth 100000 in
set_option maxHeartbeats 1000000 in
theorem cloneB (ao : Option Addr) (n c : Nat) (xs : List Value) (w : World) (h : Sl w 1 ao n c xs) (hn : n ≤ 1000000) :
    Calls Tryd.prog 20 #[.slice ao n c] w fun e w' => ∃ ao' c', e = .returned (.slice ao' n c') ∧ w'.ownsRow w.heap.size 5 1 (.slice ao' n c') n xs ∧ Keeps [] w w' := by
  obtain ⟨i, z, hi, hz, hsz, hby, hzc, _⟩ := infoTB
  have q := fun (W : World) (a : Option Addr) (n c n' c' : Nat) => Lib.run_eql_slice_nil (P := Tryd.prog) W 30 _ a n c n' c' Tryd.underlying30
  cases ao with
  | none =>
    obtain rfl := h.nil rfl
    obtain rfl : n = 0 := by have := h.cap; omega
    obtain rfl : xs = [] := List.eq_nil_of_length_eq_zero (by simpa using h.len)
    go_enter Tryd.func20, Tryd.ntmps20
    go_wp2
    go_ret
    exact ⟨_, _, rfl, World.ownsRow_nil _ _ _ _, Keeps.refl _ _⟩
  | some ad =>
    have hk0 := (Keeps.refl [] w).alloc (.cells #[] 5)
    have h1 := h.keep0 hk0
    have hO : (w.alloc (.cells #[] 5)).ownsRow w.heap.size 5 1 (.slice (some ⟨w.heap.size, 0, none⟩) 0 0) 0 [] := (Blk.fresh w 5 #[]).owns (Nat.le_refl _) rfl (Nat.le_refl _) (Nat.zero_le _) rfl
    go_enter Tryd.func20, Tryd.ntmps20
    go_wp2_with (at_builtin; refine wpList_append_by _ rfl _ _ 30 30 rfl w.heap.size 5 i z 1 1 Tryd.underlying30 hi hz hsz hby hzc (some ⟨w.heap.size, 0, none⟩) 0 0 [] rfl hO (.slice (some ad) n c) rfl n xs (h1.src Tryd.underlying30) (by unfold maxLen; omega) (by omega) hk0.size ?_; intro a2 c2 w2 hO2 hka hba)
    have hk2 := hk0.step hka (fun x hx => .inr (own_lt hO x hx).1)
    go_ret
    exact ⟨a2, c2, by simp, by simpa using hO2, hk2⟩
end Go.Proofs.YtknnhnpcgefchaaDoor
