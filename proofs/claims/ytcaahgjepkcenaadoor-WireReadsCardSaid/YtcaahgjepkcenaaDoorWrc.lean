/- The document's Int, text, Text. -/
import Derived.Test.YtcaahgjepkcenaaDoorWra
import Derived.Test.YtcaahgjepkcenaaDoorWrb

namespace Go.Proofs.YtcaahgjepkcenaaDoor
open Go.RowKit Go.Lib

def docI (l : List UInt8) : Int × Nat × Nat := (unzig (rdU 0 0 l).1, (rdU 0 0 l).2.1, (rdU 0 0 l).2.2)

set_option maxRecDepth 100000 in
theorem intR_any (ao : Option Addr) (c : Nat) (l : List UInt8) (w : World) (h : Rb w ao c l) :
    Calls Tryd.prog 37 #[.slice ao l.length c] w fun e w' => e = .returned (.tuple #[.int .i64 (docI l).1, .int .i64 (docI l).2.1, .int .i64 (docI l).2.2]) ∧ w' = w := by
  have U := uintR_any ao c l w h
  have hl := rdU_lt l
  have he : (rdU 0 0 l).2.2 ≠ 0 → (rdU 0 0 l).1 = 0 ∧ (rdU 0 0 l).2.1 = 0 := rdU_err l 0 0
  unfold docI
  generalize rdU 0 0 l = x at *
  obtain ⟨u, z, f⟩ := x
  dsimp only at U hl he ⊢
  have HE := Lib.hid he
  clear he
  have q1 : IntKind.i64.wrap ((u : Int) / 2) = (u : Int) / 2 := IntWalk.i64_in _ (by omega)
  have q2 : IntKind.i64.wrap (-((u : Int) / 2)) = -((u : Int) / 2) := IntWalk.i64_in _ (by omega)
  have q3 : IntKind.i64.wrap (-((u : Int) / 2) - 1) = -((u : Int) / 2) - 1 := IntWalk.i64_in _ (by omega)
  by_cases hf : f = 0
  · subst hf
    by_cases hu : u % 2 = 1
    · have n1 : (u : Int) % 2 = 1 := by omega
      have e1 := Lib.hid (show unzig u = -((u : Int) / 2) - 1 by unfold unzig; rw [if_neg (by omega)]; omega)
      go_enter Tryd.func37, Tryd.ntmps37
      go_wp2_with fail
      refine U.mono ?_
      rintro e w' ⟨rfl, hw⟩
      obtain rfl := hw.symm
      clear U
      go_wp2_with fail
      go_ret3
      exact ⟨by rw [e1.out]; rfl, rfl⟩
    · have n1 : (u : Int) % 2 = 0 := by omega
      have e1 := Lib.hid (show unzig u = (u : Int) / 2 by unfold unzig; rw [if_pos (by omega)]; omega)
      go_enter Tryd.func37, Tryd.ntmps37
      go_wp2_with fail
      refine U.mono ?_
      rintro e w' ⟨rfl, hw⟩
      obtain rfl := hw.symm
      clear U
      go_wp2_with fail
      go_ret3
      exact ⟨by rw [e1.out]; rfl, rfl⟩
  · obtain ⟨rfl, rfl⟩ := HE.out hf
    have n1 : ((f : Int) == 0) = false := by simp; omega
    clear HE
    go_enter Tryd.func37, Tryd.ntmps37
    go_wp2_with fail
    refine U.mono ?_
    rintro e w' ⟨rfl, hw⟩
    obtain rfl := hw.symm
    clear U
    go_wp2_with fail
    go_ret3
    exact ⟨rfl, rfl⟩

def docT (m : Nat) (l : List UInt8) : List UInt8 × Nat × Nat :=
  if (rdU 0 0 l).2.2 ≠ 0 then ([], 0, (rdU 0 0 l).2.2) else
  if m < (rdU 0 0 l).1 then ([], 0, 20) else
  if l.length - (rdU 0 0 l).2.1 < (rdU 0 0 l).1 then ([], 0, 22) else
  ((l.drop (rdU 0 0 l).2.1).take (rdU 0 0 l).1, (rdU 0 0 l).2.1 + (rdU 0 0 l).1, 0)
theorem docT_rdT (l : List UInt8) : docT 2000 l = rdT l := rfl

set_option maxRecDepth 100000 in
set_option maxHeartbeats 1000000 in
theorem textD_any (ao : Option Addr) (c : Nat) (l : List UInt8) (m : Nat) (w : World) (h : Rb w ao c l) (hm : m ≤ 2000) :
    Calls Tryd.prog 59 #[.slice ao l.length c, .int .u64 m] w fun e w' => e = .returned (.tuple #[.string ⟨(docT m l).1.toArray⟩, .int .i64 (docT m l).2.1, .int .i64 (docT m l).2.2]) ∧ w' = w := by
  have hzl := rdU_size l
  have hul := rdU_lt l
  have hmx := h.most
  have hcp := h.cap
  unfold maxLen at hmx
  have U := uintR_any ao c l w h
  generalize hres : docT m l = res
  unfold docT at hres
  generalize (rdU 0 0 l).1 = u at *
  generalize (rdU 0 0 l).2.1 = z at *
  generalize (rdU 0 0 l).2.2 = f at *
  by_cases hf : f = 0
  rotate_left
  · rw [if_pos hf] at hres
    subst hres
    have n1 : ((f : Int) == 0) = false := by simp; omega
    go_enter Tryd.func59, Tryd.ntmps59
    go_wp2_with fail
    refine U.mono ?_
    rintro e w' ⟨rfl, hw⟩
    obtain rfl := hw.symm
    clear U
    go_wp2_with fail
    go_ret3
    exact ⟨rfl, rfl⟩
  subst hf
  rw [if_neg (by simp)] at hres
  by_cases h20 : m < u
  · rw [if_pos h20] at hres
    subst hres
    have n1 : (m : Int) < (u : Int) := by omega
    go_enter Tryd.func59, Tryd.ntmps59
    go_wp2_with fail
    refine U.mono ?_
    rintro e w' ⟨rfl, hw⟩
    obtain rfl := hw.symm
    clear U
    go_wp2_with fail
    go_ret3
    exact ⟨rfl, rfl⟩
  rw [if_neg h20] at hres
  have n1 : ¬ ((m : Int) < (u : Int)) := by omega
  have q1 : IntKind.i64.wrap (u : Int) = u := IntWalk.i64_in _ (by omega)
  have q2 : IntKind.i64.wrap ((l.length : Int) - (z : Int)) = l.length - z := IntWalk.i64_in _ (by omega)
  have q4 : IntKind.u64.wrap ((l.length : Int) - (z : Int)) = l.length - z := IntWalk.u64_in _ (by omega)
  by_cases h22 : l.length - z < u
  · rw [if_pos h22] at hres
    subst hres
    have n2 : (l.length : Int) - (z : Int) < (u : Int) := by omega
    go_enter Tryd.func59, Tryd.ntmps59
    go_wp2_with fail
    refine U.mono ?_
    rintro e w' ⟨rfl, hw⟩
    obtain rfl := hw.symm
    clear U
    go_wp2_with fail
    go_ret3
    exact ⟨rfl, rfl⟩
  · rw [if_neg h22] at hres
    have n2 : ¬ ((l.length : Int) - (z : Int) < (u : Int)) := by omega
    have q3 : IntKind.i64.wrap ((z : Int) + (u : Int)) = z + u := IntWalk.i64_in _ (by omega)
    have n3 : z + u ≤ c := by omega
    have n4 : z ≤ z + u := by omega
    have hP := h.part (z := z) (n := u) (by omega)
    have hpl : ((l.drop z).take u).length = u := by simp; omega
    have r0 := run_text hP 24 9 Tryd.underlying24 Tryd.underlying9
    rw [hpl] at r0
    subst hres
    generalize ((l.drop z).take u) = y at *
    go_enter Tryd.func59, Tryd.ntmps59
    go_wp2_with fail
    refine U.mono ?_
    rintro e w' ⟨rfl, hw⟩
    obtain rfl := hw.symm
    clear U
    go_wp2_with fail
    all_goals (go_ret3; exact ⟨rfl, rfl⟩)

theorem textR_any (ao : Option Addr) (c : Nat) (l : List UInt8) (w : World) (h : Rb w ao c l) :
    Calls Tryd.prog 38 #[.slice ao l.length c] w fun e w' => e = .returned (.tuple #[.string ⟨(rdT l).1.toArray⟩, .int .i64 (rdT l).2.1, .int .i64 (rdT l).2.2]) ∧ w' = w := by
  have U := textD_any ao c l 2000 w h (Nat.le_refl _)
  rw [docT_rdT] at U
  generalize rdT l = x at *
  obtain ⟨x, n, f⟩ := x
  dsimp only at U ⊢
  go_enter Tryd.func38, Tryd.ntmps38
  go_wp2_with fail
  refine U.mono ?_
  rintro e w' ⟨rfl, hw⟩
  obtain rfl := hw.symm
  clear U
  go_wp2_with fail
  go_ret3
  exact ⟨rfl, rfl⟩
end Go.Proofs.YtcaahgjepkcenaaDoor
