/- Texts read from bytes: Text. -/
import Derived.Test.YtcaahgjepkcenaaDoorWk

namespace Go.Proofs.YtcaahgjepkcenaaDoor
open Go.RowKit Go.Lib

/-- what Text tells -/
def rdT (l : List UInt8) : List UInt8 × Nat × Nat :=
  if (rdU 0 0 l).2.2 ≠ 0 then ([], 0, (rdU 0 0 l).2.2) else
  if 2000 < (rdU 0 0 l).1 then ([], 0, 20) else
  if l.length - (rdU 0 0 l).2.1 < (rdU 0 0 l).1 then ([], 0, 22) else
  ((l.drop (rdU 0 0 l).2.1).take (rdU 0 0 l).1, (rdU 0 0 l).2.1 + (rdU 0 0 l).1, 0)

/-- a part of bytes -/
theorem Rb.part {w : World} {ao : Option Addr} {c : Nat} {l : List UInt8} (h : Rb w ao c l) {z n : Nat} (hz : z + n ≤ l.length) :
    Rb w (if c = z then ao else ao.map (·.add z)) (c - z) ((l.drop z).take n) := by
  have hD := h.drop (k := z) (by omega)
  have hT := hD.take (k := n) (c' := c - z) (by omega) (by have := h.cap; omega) (Nat.le_refl _)
  have hl : ((l.drop z).take n).length = n := by simp; omega
  have hb : ((bys l).drop (z * 1)).take (n * 1) = bys ((l.drop z).take n) := by unfold bys; rw [Nat.mul_one, Nat.mul_one, List.map_take, List.map_drop]
  rw [hb, Nat.mul_one] at hT
  unfold Rb
  rw [hl]
  exact hT

set_option maxRecDepth 100000 in
set_option maxHeartbeats 1000000 in
theorem text_any (ao : Option Addr) (c : Nat) (l : List UInt8) (w : World) (h : Rb w ao c l) :
    Calls Tryd.prog 20 #[.slice ao l.length c] w fun e w' => ∃ ev, e = .returned (.tuple #[.string ⟨(rdT l).1.toArray⟩, .int .i64 (rdT l).2.1, ev]) ∧ ErrF w' ev (rdT l).2.2 ∧ Keeps [] w w' := by
  have hzl := rdU_size l
  have hul := rdU_lt l
  have hmx := h.most
  have hcp := h.cap
  unfold maxLen at hmx
  have U := uint_any ao c l w h
  generalize hres : rdT l = res
  unfold rdT at hres
  generalize (rdU 0 0 l).1 = u at *
  generalize (rdU 0 0 l).2.1 = z at *
  generalize (rdU 0 0 l).2.2 = f at *
  by_cases hf : f = 0
  rotate_left
  · rw [if_pos hf] at hres
    subst hres
    go_enter Tryd.func20, Tryd.ntmps20
    go_wp2_with fail
    refine U.mono ?_
    rintro e w1 ⟨ev, rfl, hE, hE0, hk1⟩
    have hEF := ErrF.of hE hE0
    rcases hE with ⟨rfl, _⟩ | ⟨g, p, rfl, _⟩
    · exact absurd (hE0.1 rfl) hf
    clear U
    go_wp2_with fail
    go_ret3
    exact ⟨_, rfl, hEF, hk1⟩
  rw [if_neg (by simp [hf])] at hres
  by_cases h20 : 2000 < u
  · rw [if_pos h20] at hres
    subst hres
    have n1 : (2000 : Int) < (u : Int) := by omega
    go_enter Tryd.func20, Tryd.ntmps20
    go_wp2_with fail
    refine U.mono ?_
    rintro e w1 ⟨ev, rfl, hE, hE0, hk1⟩
    obtain rfl := hE0.2 hf
    clear hE hE0 hf
    clear U
    go_wp2_with fail
    refine (wform _ w1).mono ?_
    rintro e w2 ⟨g, rfl, hE2, hk2⟩
    go_wp2_with fail
    go_ret3
    exact ⟨_, rfl, ErrF.of hE2 (by simp), hk1.trans hk2⟩
  rw [if_neg h20] at hres
  have n1 : ¬ ((2000 : Int) < (u : Int)) := by omega
  have q1 : IntKind.i64.wrap (u : Int) = u := IntWalk.i64_in _ (by omega)
  have q2 : IntKind.i64.wrap ((l.length : Int) - (z : Int)) = l.length - z := IntWalk.i64_in _ (by omega)
  by_cases h22 : l.length - z < u
  · rw [if_pos h22] at hres
    subst hres
    have n2 : (l.length : Int) - (z : Int) < (u : Int) := by omega
    go_enter Tryd.func20, Tryd.ntmps20
    go_wp2_with fail
    refine U.mono ?_
    rintro e w1 ⟨ev, rfl, hE, hE0, hk1⟩
    obtain rfl := hE0.2 hf
    clear hE hE0 hf
    clear U
    go_wp2_with fail
    refine (wshort _ w1).mono ?_
    rintro e w2 ⟨g, rfl, hE2, hk2⟩
    go_wp2_with fail
    go_ret3
    exact ⟨_, rfl, ErrF.of hE2 (by simp), hk1.trans hk2⟩
  · rw [if_neg h22] at hres
    have n2 : ¬ ((l.length : Int) - (z : Int) < (u : Int)) := by omega
    have q3 : IntKind.i64.wrap ((z : Int) + (u : Int)) = z + u := IntWalk.i64_in _ (by omega)
    have n3 : z + u ≤ c := by omega
    have n4 : z ≤ z + u := by omega
    have hP := h.part (z := z) (n := u) (by omega)
    have hpl : ((l.drop z).take u).length = u := by simp; omega
    have r0 := fun (W : World) (hk : Keeps [] w W) => run_text (hP.keep0 hk) 24 9 Tryd.underlying24 Tryd.underlying9
    rw [hpl] at r0
    subst hres
    generalize ((l.drop z).take u) = y at *
    go_enter Tryd.func20, Tryd.ntmps20
    go_wp2_with fail
    refine U.mono ?_
    rintro e w1 ⟨ev, rfl, hE, hE0, hk1⟩
    obtain rfl := hE0.2 hf
    clear hE hE0 hf
    have r1 := r0 w1 hk1
    clear U r0
    go_wp2_with fail
    all_goals (go_ret3; exact ⟨.nilIface, rfl, .inl ⟨rfl, rfl⟩, hk1⟩)

theorem rdT_put (s : ByteArray) (more : List UInt8) (h : s.size ≤ 1000000000) : rdT (uvarint s.size ++ s.data.toList ++ more) = if 2000 < s.size then ([], 0, 20) else (s.data.toList, (uvarint s.size ++ s.data.toList).length, 0) := by
  have hs : s.data.toList.length = s.size := by rw [Array.length_toList]; rfl
  have hu := rdU_put s.size (s.data.toList ++ more) (by omega)
  rw [← List.append_assoc] at hu
  unfold rdT
  rw [hu]
  simp only [ne_eq, not_true, if_false]
  split
  · rfl
  · rw [if_neg (by simp only [List.length_append]; omega), List.append_assoc, List.drop_left, ← hs, List.take_left]
    simp
end Go.Proofs.YtcaahgjepkcenaaDoor
