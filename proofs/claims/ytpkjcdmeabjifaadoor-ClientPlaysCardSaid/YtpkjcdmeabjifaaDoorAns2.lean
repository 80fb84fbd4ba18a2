/- The help's comparison of an answer with itself. -/
import Derived.Test.YtpkjcdmeabjifaaDoorAns
namespace Go.Proofs.YtpkjcdmeabjifaaDoor
open Go.RowKit

/-- in world w the slice holds texts -/
def TextsIn (w : World) (s : Option Addr × Nat × Nat) : Prop :=
  s.2.1 ≤ 9223372036854775807 ∧ ∀ i, i < s.2.1 → ∃ b o t, s.1 = some ⟨b, o, none⟩ ∧ w.cell? ⟨b, o + i, none⟩ = some (.string t)
/-- in world w the slice holds values -/
def ValsIn (w : World) (a : Option Addr) (l : Nat) : Prop :=
  l ≤ 9223372036854775807 ∧ ∀ i, i < l → ∃ b o x y t, a = some ⟨b, o, none⟩ ∧ w.cell? ⟨b, o + i * 3, none⟩ = some (.int .i64 x) ∧ w.cell? ⟨b, o + i * 3 + 1, none⟩ = some (.int .i64 y) ∧ w.cell? ⟨b, o + i * 3 + 2, none⟩ = some (.string t)
/-- in world w the slice holds rows of values -/
def RowsIn (w : World) (s : Option Addr × Nat × Nat) : Prop :=
  s.2.1 ≤ 9223372036854775807 ∧ ∀ i, i < s.2.1 → ∃ b o va vl vc, s.1 = some ⟨b, o, none⟩ ∧ w.cell? ⟨b, o + i, none⟩ = some (.slice va vl vc) ∧ ValsIn w va vl

theorem TextsIn.keep {w w' : World} {s : Option Addr × Nat × Nat} (h : TextsIn w s) (hk : Keeps [] w w') : TextsIn w' s :=
  ⟨h.1, fun i hi => by
    obtain ⟨b, o, t, h1, h2⟩ := h.2 i hi
    exact ⟨b, o, t, h1, hk.cellSome h2 (by simp)⟩⟩
theorem ValsIn.keep {w w' : World} {a : Option Addr} {l : Nat} (h : ValsIn w a l) (hk : Keeps [] w w') : ValsIn w' a l :=
  ⟨h.1, fun i hi => by
    obtain ⟨b, o, x, y, t, h1, h2, h3, h4⟩ := h.2 i hi
    exact ⟨b, o, x, y, t, h1, hk.cellSome h2 (by simp), hk.cellSome h3 (by simp), hk.cellSome h4 (by simp)⟩⟩
theorem RowsIn.keep {w w' : World} {s : Option Addr × Nat × Nat} (h : RowsIn w s) (hk : Keeps [] w w') : RowsIn w' s :=
  ⟨h.1, fun i hi => by
    obtain ⟨b, o, va, vl, vc, h1, h2, h3⟩ := h.2 i hi
    exact ⟨b, o, va, vl, vc, h1, hk.cellSome h2 (by simp), h3.keep hk⟩⟩

set_option maxRecDepth 100000 in
set_option maxHeartbeats 2000000 in
theorem answers_same (cols rows : Option Addr × Nat × Nat) (cnt : Int) (w : World) (hc : TextsIn w cols) (hr : RowsIn w rows) :
    Calls Tryd.prog 21 #[.agg #[.slice cols.1 cols.2.1 cols.2.2, .slice rows.1 rows.2.1 rows.2.2, .int .i64 cnt], .agg #[.slice cols.1 cols.2.1 cols.2.2, .slice rows.1 rows.2.1 rows.2.2, .int .i64 cnt]] w fun e w' => e = .returned (.bool true) ∧ Keeps [] w w' := by
  obtain ⟨ca, cl, cc⟩ := cols
  obtain ⟨ra, rl, rc⟩ := rows
  have HC := Lib.hid hc
  have HR := Lib.hid hr
  have hrl : rl ≤ 9223372036854775807 := hr.1
  clear hc hr
  have hk0 : Keeps [] w ((w.alloc (.cells #[.slice ca cl cc, .slice ra rl rc, .int .i64 cnt] 36)).alloc (.cells #[.slice ca cl cc, .slice ra rl rc, .int .i64 cnt] 36)) := ((Keeps.refl [] w).alloc _).alloc _
  go_enter Tryd.func21, Tryd.ntmps21
  go_wp2_with fail
  refine (texts_same ca cl cc _ (HC.out.keep hk0).1 (HC.out.keep hk0).2).mono ?_
  rintro e w1 ⟨rfl, hk1⟩
  have hX := ((Blk.fresh w 36 #[.slice ca cl cc, .slice ra rl rc, .int .i64 cnt]).alloc (.cells #[.slice ca cl cc, .slice ra rl rc, .int .i64 cnt] 36)).keep hk1 (by simp)
  have hY := (Blk.fresh_at (w.alloc (.cells #[.slice ca cl cc, .slice ra rl rc, .int .i64 cnt] 36)) 36 #[.slice ca cl cc, .slice ra rl rc, .int .i64 cnt] (n := w.heap.size + 1) (by simp)).keep hk1 (by simp)
  have hk := hk0.trans hk1
  clear hk0 hk1
  have hXc := hX.cell
  have hYc := hY.cell
  go_wp2_with fail
  go_loopw [5] (fun i wr => ∃ k : Nat, k ≤ rl ∧ i = .int .i64 (k : Int) ∧ Keeps [] w1 wr ∧ Keeps [] w wr) (fun i _ => rl - (intOf i).toNat)
  case atStart => exact ⟨0, by omega, rfl, Keeps.refl _ _, hk⟩
  case round =>
    obtain ⟨k, hkl, rfl, hk1, hkk⟩ := hrel
    have hX2 := (hX.keep hk1 (by simp)).cell
    have hY2 := (hY.keep hk1 (by simp)).cell
    clear hXc hYc hX hY hk
    by_cases hlt : k < rl
    · obtain ⟨b, o, va, vl, vc, hra, hcell, hvals⟩ := HR.out.2 k hlt
      replace hra : ra = some ⟨b, o, none⟩ := hra
      subst hra
      replace hcell := hkk.cellSome hcell (by simp)
      replace hvals := hvals.keep hkk
      have HV := Lib.hid hvals
      clear hvals
      have h0 : (0 : Int) ≤ (k : Int) := by omega
      have h1 : (k : Int) < (rl : Int) := by omega
      go_wp2
      refine wp_region_still_tail 10 (by kernel_rfl) (by kernel_rfl) ?_
      change wpStill _ _ (World.drew _) _ _ _
      simp only [List.take_succ_cons, List.take_zero, List.drop_succ_cons, List.drop_zero]
      repeat still_step
      refine wpStill_nil ?_
      change wpList _ _ _ _ _ (World.drew _)
      go_wp2_with fail
      refine (values_same va vl vc _ (HV.out.keep (Keeps.refl [] wr).drew).1 (HV.out.keep (Keeps.refl [] wr).drew).2).mono ?_
      rintro e w2 ⟨rfl, hk2⟩
      go_wp2_with fail
      go_roundw
      case rel => exact ⟨k + 1, by omega, by go_num, hk1.drew.trans hk2, hkk.drew.trans hk2⟩
      case measure => simp [intOf]; omega
    · go_wp2
      go_ret
      exact ⟨rfl, hkk⟩
end Go.Proofs.YtpkjcdmeabjifaaDoor
