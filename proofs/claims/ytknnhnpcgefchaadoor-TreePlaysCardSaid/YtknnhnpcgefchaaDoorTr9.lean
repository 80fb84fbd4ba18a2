/- Generic slices: Grow, Concat. -/
import Derived.Test.YtknnhnpcgefchaaDoorTr3

namespace Go.Proofs.YtknnhnpcgefchaaDoor
open Go.RowKit Go.Lib

set_option maxRecDepth 100000 in
set_option maxHeartbeats 4000000 in
theorem growP (q : Nat) (w : World) (hq : q ≤ 10000000) :
    Calls Tryd.prog 69 #[.slice none 0 0, .int .i64 (q : Int)] w fun e w' => ∃ ao c, e = .returned (.slice ao 0 c) ∧ w'.ownsRow w.heap.size 64 2 (.slice ao 0 c) 0 [] ∧ Keeps [] w w' := by
  obtain ⟨i, z, hi, hz, hsz, hby, hzc, hz1⟩ := infoTP
  have n1 : ¬ ((q : Int) < 0) := by omega
  have q1 : IntKind.i64.wrap (q : Int) = (q : Int) := IntWalk.i64_in _ (by omega)
  rcases Nat.eq_zero_or_pos q with rfl | hp
  · go_enter Tryd.func69, Tryd.ntmps69
    go_wp2_with fail
    go_ret
    exact ⟨_, _, rfl, World.ownsRow_nil _ _ _ _, Keeps.refl _ _⟩
  · have n2 : (0 : Int) < (q : Int) := by omega
    go_enter Tryd.func69, Tryd.ntmps69
    go_wp2_with (at_builtin; refine wpList_append_zeros _ rfl _ _ 52 3 rfl w.heap.size 64 i z 2 48 .i64 Tryd.underlying52 Tryd.underlying3 hi hz hsz hby hzc (by decide) none 0 0 rfl [] (Sl.none _ _) .i64 q rfl hp (by omega) (by unfold maxLen; omega) (by omega) (Nat.le_refl _) ?_; intro c1 w1 zs hzl hO1 hk1)
    go_ret
    have := own_take hO1 (k := 0) (by omega)
    exact ⟨_, _, rfl, by simpa using this, hk1⟩
set_option maxRecDepth 100000 in
set_option maxHeartbeats 4000000 in
theorem growN (q : Nat) (w : World) (hq : q ≤ 10000000) :
    Calls Tryd.prog 70 #[.slice none 0 0, .int .i64 (q : Int)] w fun e w' => ∃ ao c, e = .returned (.slice ao 0 c) ∧ w'.ownsRow w.heap.size 51 1 (.slice ao 0 c) 0 [] ∧ Keeps [] w w' := by
  obtain ⟨i, z, hi, hz, hsz, hby, hzc, hz1⟩ := infoTN
  have n1 : ¬ ((q : Int) < 0) := by omega
  have q1 : IntKind.i64.wrap (q : Int) = (q : Int) := IntWalk.i64_in _ (by omega)
  rcases Nat.eq_zero_or_pos q with rfl | hp
  · go_enter Tryd.func70, Tryd.ntmps70
    go_wp2_with fail
    go_ret
    exact ⟨_, _, rfl, World.ownsRow_nil _ _ _ _, Keeps.refl _ _⟩
  · have n2 : (0 : Int) < (q : Int) := by omega
    go_enter Tryd.func70, Tryd.ntmps70
    go_wp2_with (at_builtin; refine wpList_append_zeros _ rfl _ _ 53 3 rfl w.heap.size 51 i z 1 8 .i64 Tryd.underlying53 Tryd.underlying3 hi hz hsz hby hzc (by decide) none 0 0 rfl [] (Sl.none _ _) .i64 q rfl hp (by omega) (by unfold maxLen; omega) (by omega) (Nat.le_refl _) ?_; intro c1 w1 zs hzl hO1 hk1)
    go_ret
    have := own_take hO1 (k := 0) (by omega)
    exact ⟨_, _, rfl, by simpa using this, hk1⟩
set_option maxRecDepth 100000 in
set_option maxHeartbeats 4000000 in
theorem catP (sb : Nat) (a1 a2 : Option Addr) (n1 n2 c1 c2 : Nat) (xs ys : List Value) (w : World) (hB : Blk w sb 52 #[.slice a1 n1 c1, .slice a2 n2 c2]) (h1 : Sl w 2 a1 n1 c1 xs) (h2 : Sl w 2 a2 n2 c2 ys) (hn : n1 + n2 ≤ 1000000) :
    Calls Tryd.prog 60 #[.slice (some ⟨sb, 0, none⟩) 2 2] w fun e w' => ∃ ao c, e = .returned (.slice ao (n1 + n2) c) ∧ w'.ownsRow w.heap.size 64 2 (.slice ao (n1 + n2) c) (n1 + n2) (xs ++ ys) ∧ Keeps [] w w' := by
  obtain ⟨i, z, hi, hz, hsz, hby, hzc, hz1⟩ := infoTP
  have hc0 : w.cell? ⟨sb, 0, none⟩ = some (.slice a1 n1 c1) := hB.cell 0
  have hc1 : w.cell? ⟨sb, 1, none⟩ = some (.slice a2 n2 c2) := hB.cell 1
  have m1 : ¬ ((n1 : Int) < 0) := by omega
  have m2 : ¬ ((n1 : Int) + (n2 : Int) < 0) := by omega
  have q1 : IntKind.i64.wrap (n1 : Int) = (n1 : Int) := IntWalk.i64_in _ (by omega)
  have q2 : IntKind.i64.wrap ((n1 : Int) + (n2 : Int)) = (n1 : Int) + (n2 : Int) := IntWalk.i64_in _ (by omega)
  have HG := fun W => growP (n1 + n2) W (by omega)
  have h2o : ∀ ad, a2 = some ad → ys ≠ [] → ad.block < w.heap.size := fun ad e hx => h2.lt e hx
  go_enter Tryd.func60, Tryd.ntmps60
  go_wp2_with fail
  refine wp_loop_rounds 3 ?_
  rw [rounds_succ]
  go_wp2_with fail
  rw [rounds_succ]
  go_wp2_with fail
  rw [rounds_succ]
  go_wp2_with fail
  refine (HG w).mono ?_
  rintro e w1 ⟨ao, c, rfl, hO, hk⟩
  replace hc0 := hk.cellSome hc0 (by simp)
  replace hc1 := hk.cellSome hc1 (by simp)
  replace h1 := h1.keep0 hk
  replace h2 := h2.keep0 hk
  have hlt := own_lt hO
  have hsb := hB.lt
  have hkN := hk.size
  clear HG
  go_wp2_with fail
  refine wp_loop_rounds 3 ?_
  rw [rounds_succ]
  go_wp2_with (at_builtin; refine wpList_append_by _ rfl _ _ 52 52 rfl w.heap.size 64 i z 2 48 Tryd.underlying52 hi hz hsz hby hzc ao 0 c [] rfl hO (.slice a1 n1 c1) rfl n1 xs (h1.src Tryd.underlying52) (by unfold maxLen; omega) (by omega) hkN ?_; intro ao2 c2' w2 hO2 hk2 hb2)
  have hkk : Keeps [] w w2 := hk.step hk2 (fun x hx => .inr (hlt x hx).1)
  replace hc1 := hk2.cellSome hc1 (fun hx => absurd (hlt _ hx).1 (Nat.not_le.2 hsb))
  replace h2 := h2.keep hk2 (fun ad e hx hm => by have := (hlt _ hm).1; have := h2o ad e hx; omega)
  simp only [Nat.zero_add, List.nil_append] at hO2 ⊢
  have hlt2 := own_lt hO2
  rw [rounds_succ]
  go_wp2_with (at_builtin; refine wpList_append_by _ rfl _ _ 52 52 rfl w.heap.size 64 i z 2 48 Tryd.underlying52 hi hz hsz hby hzc ao2 n1 c2' xs rfl hO2 (.slice a2 n2 c2) rfl n2 ys (h2.src Tryd.underlying52) (by unfold maxLen; omega) (by omega) hkk.size ?_; intro ao3 c3 w3 hO3 hk3 hb3)
  have hkk3 : Keeps [] w w3 := hkk.step hk3 (fun x hx => .inr (hlt2 x hx).1)
  rw [rounds_succ]
  go_wp2_with fail
  go_ret
  exact ⟨ao3, c3, rfl, hO3, hkk3⟩
set_option maxRecDepth 100000 in
set_option maxHeartbeats 4000000 in
theorem catN (sb : Nat) (a1 a2 : Option Addr) (n1 n2 c1 c2 : Nat) (xs ys : List Value) (w : World) (hB : Blk w sb 53 #[.slice a1 n1 c1, .slice a2 n2 c2]) (h1 : Sl w 1 a1 n1 c1 xs) (h2 : Sl w 1 a2 n2 c2 ys) (hn : n1 + n2 ≤ 1000000) :
    Calls Tryd.prog 61 #[.slice (some ⟨sb, 0, none⟩) 2 2] w fun e w' => ∃ ao c, e = .returned (.slice ao (n1 + n2) c) ∧ w'.ownsRow w.heap.size 51 1 (.slice ao (n1 + n2) c) (n1 + n2) (xs ++ ys) ∧ Keeps [] w w' := by
  obtain ⟨i, z, hi, hz, hsz, hby, hzc, hz1⟩ := infoTN
  have hc0 : w.cell? ⟨sb, 0, none⟩ = some (.slice a1 n1 c1) := hB.cell 0
  have hc1 : w.cell? ⟨sb, 1, none⟩ = some (.slice a2 n2 c2) := hB.cell 1
  have m1 : ¬ ((n1 : Int) < 0) := by omega
  have m2 : ¬ ((n1 : Int) + (n2 : Int) < 0) := by omega
  have q1 : IntKind.i64.wrap (n1 : Int) = (n1 : Int) := IntWalk.i64_in _ (by omega)
  have q2 : IntKind.i64.wrap ((n1 : Int) + (n2 : Int)) = (n1 : Int) + (n2 : Int) := IntWalk.i64_in _ (by omega)
  have HG := fun W => growN (n1 + n2) W (by omega)
  have h2o : ∀ ad, a2 = some ad → ys ≠ [] → ad.block < w.heap.size := fun ad e hx => h2.lt e hx
  go_enter Tryd.func61, Tryd.ntmps61
  go_wp2_with fail
  refine wp_loop_rounds 3 ?_
  rw [rounds_succ]
  go_wp2_with fail
  rw [rounds_succ]
  go_wp2_with fail
  rw [rounds_succ]
  go_wp2_with fail
  refine (HG w).mono ?_
  rintro e w1 ⟨ao, c, rfl, hO, hk⟩
  replace hc0 := hk.cellSome hc0 (by simp)
  replace hc1 := hk.cellSome hc1 (by simp)
  replace h1 := h1.keep0 hk
  replace h2 := h2.keep0 hk
  have hlt := own_lt hO
  have hsb := hB.lt
  have hkN := hk.size
  clear HG
  go_wp2_with fail
  refine wp_loop_rounds 3 ?_
  rw [rounds_succ]
  go_wp2_with (at_builtin; refine wpList_append_by _ rfl _ _ 53 53 rfl w.heap.size 51 i z 1 8 Tryd.underlying53 hi hz hsz hby hzc ao 0 c [] rfl hO (.slice a1 n1 c1) rfl n1 xs (h1.src Tryd.underlying53) (by unfold maxLen; omega) (by omega) hkN ?_; intro ao2 c2' w2 hO2 hk2 hb2)
  have hkk : Keeps [] w w2 := hk.step hk2 (fun x hx => .inr (hlt x hx).1)
  replace hc1 := hk2.cellSome hc1 (fun hx => absurd (hlt _ hx).1 (Nat.not_le.2 hsb))
  replace h2 := h2.keep hk2 (fun ad e hx hm => by have := (hlt _ hm).1; have := h2o ad e hx; omega)
  simp only [Nat.zero_add, List.nil_append] at hO2 ⊢
  have hlt2 := own_lt hO2
  rw [rounds_succ]
  go_wp2_with (at_builtin; refine wpList_append_by _ rfl _ _ 53 53 rfl w.heap.size 51 i z 1 8 Tryd.underlying53 hi hz hsz hby hzc ao2 n1 c2' xs rfl hO2 (.slice a2 n2 c2) rfl n2 ys (h2.src Tryd.underlying53) (by unfold maxLen; omega) (by omega) hkk.size ?_; intro ao3 c3 w3 hO3 hk3 hb3)
  have hkk3 : Keeps [] w w3 := hkk.step hk3 (fun x hx => .inr (hlt2 x hx).1)
  rw [rounds_succ]
  go_wp2_with fail
  go_ret
  exact ⟨ao3, c3, rfl, hO3, hkk3⟩
end Go.Proofs.YtknnhnpcgefchaaDoor
