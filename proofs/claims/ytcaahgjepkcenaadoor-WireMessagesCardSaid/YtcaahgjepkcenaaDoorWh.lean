/- WireWrites: classes of placed errors, Few, and the walk. -/
import Derived.Test.YtcaahgjepkcenaaDoorWe
import Derived.Test.YtcaahgjepkcenaaDoorWg
import Derived.Test.YtcaahgjepkcenaaDoorErr6

namespace Go.Proofs.YtcaahgjepkcenaaDoor
open Go.RowKit Go.Lib

theorem classP_any {ev : Value} {f : Nat} {w : World} (hg : (w).cell? ⟨0, 0, none⟩ = some (.iface 153 (.agg #[.pointer (some ⟨2, 27, none⟩)]))) (h : ErrP w ev f) :
    Calls Tryd.prog 21 #[ev] w fun e w' => e = .returned (.int .i64 f) ∧ Keeps [] w w' := by
  cases h with
  | base h => exact class_any ev f w hg h.is
  | placed he hB h h0 =>
    subst he
    rcases h with ⟨_, h1⟩ | ⟨_, g, p, rfl, hG⟩
    · exact absurd h1 h0
    · exact (class_placed _ g f w hg (hB.cell 1) (hG.cell 1)).mono fun e w' h => ⟨h.1, Keeps.of_below h.2⟩

def few (l : List Va) (m : Int) : Bool := l.all (fun v => decide (v.text.size ≤ 100)) && decide ((l.length : Int) ≤ m)

set_option maxRecDepth 100000 in
theorem few_any (ao : Option Addr) (c : Nat) (l : List Va) (m : Int) (w : World) (h : Rv w ao c l) :
    Calls Tryd.prog 22 #[.slice ao l.length c, .int .i64 m] w fun e w' => e = .returned (.bool (few l m)) ∧ w' = w := by
  have hmx := h.most
  have hcp := h.cap
  unfold maxLen at hmx
  generalize hq : few l m = q
  have HQ := Lib.hid hq
  clear hq
  go_enter Tryd.func22, Tryd.ntmps22
  go_wp2_with fail
  go_loopw [5] (fun v wr => ∃ k : Nat, v = .int .i64 (k : Int) ∧ k ≤ l.length ∧ (∀ v ∈ l.take k, v.text.size ≤ 100) ∧ wr = w) (fun v _ => l.length - (intOf v).toNat)
  case atStart => exact ⟨0, rfl, by omega, by simp, rfl⟩
  case round =>
    obtain ⟨k, rfl, hk, ha, rfl⟩ := hrel
    have HA := Lib.hid ha
    clear ha
    by_cases hkl : k < l.length
    rotate_left
    · have n1 : ¬ ((k : Int) < (l.length : Int)) := by omega
      obtain rfl : k = l.length := by omega
      go_wp2_with fail
      go_ret
      have hall : l.all (fun v => decide (v.text.size ≤ 100)) = true := by
        rw [List.all_eq_true]
        intro v hv
        have := HA.out v (by rw [List.take_length]; exact hv)
        simpa using this
      exact ⟨by rw [← HQ.out]; unfold few; rw [hall]; rfl, rfl⟩
    have n1 : (k : Int) < (l.length : Int) := by omega
    have s1 : IntKind.i64.wrap ((k : Int) + 1) = k + 1 := IntWalk.i64_in _ (by omega)
    have hv := List.getElem?_eq_getElem hkl
    generalize l[k] = v at hv
    obtain ⟨bb, o, rfl, c0, c1, c2⟩ := Rv.at h hv
    have HV := Lib.hid hv
    clear hv
    by_cases hs : 100 < v.text.size
    · have n2 : (100 : Int) < (v.text.size : Int) := by omega
      have hall : l.all (fun v => decide (v.text.size ≤ 100)) = false := by
        rw [List.all_eq_false]
        exact ⟨v, List.mem_of_getElem? HV.out, by simp; omega⟩
      have hq : q = false := by rw [← HQ.out]; unfold few; rw [hall]; rfl
      subst hq
      clear hall
      go_wp2_with fail
      go_ret
      exact ⟨rfl, rfl⟩
    · have n2 : ¬ ((100 : Int) < (v.text.size : Int)) := by omega
      have hnext : ∀ x ∈ l.take (k + 1), x.text.size ≤ 100 := by
        intro x hx
        rw [List.take_add_one, HV.out, List.mem_append] at hx
        rcases hx with hx | hx
        · exact HA.out x hx
        · simp at hx
          subst hx
          omega
      have HN := Lib.hid hnext
      clear hnext
      go_wp2_with fail
      go_roundw
      case rel => exact ⟨k + 1, by simp, by omega, HN.out, by simp⟩
      case measure => simp [intOf]; omega

set_option maxRecDepth 100000 in
set_option maxHeartbeats 16000000 in
theorem writes_any (ao bo : Option Addr) (ac bc : Nat) (l : List Va) (b : List UInt8) (x : Ent) (w : World) (hg : (w).cell? ⟨0, 0, none⟩ = some (.iface 153 (.agg #[.pointer (some ⟨2, 27, none⟩)]))) (hl : Rv w ao ac l) (hb : Rb w bo bc b) (hi : ∀ v ∈ l, (Lit.int .i64 v.int).wf = true)
    (ht : x.term < 18446744073709551616) (hcl : x.client < 18446744073709551616) (hsq : x.seq < 18446744073709551616) :
    Calls Tryd.prog 5 #[.slice ao l.length ac, .agg x.cells, .slice bo b.length bc] w fun e w' => e = .returned (.bool true) ∧ Keeps [] w w' := by
  obtain ⟨t, kd, cl, sq, s⟩ := x
  try simp only at ht hcl hsq
  have hX := Blk.fresh w 42 (Ent.cells ⟨t, kd, cl, sq, s⟩)
  have hk0 := (Keeps.refl [] w).alloc (.cells (Ent.cells ⟨t, kd, cl, sq, s⟩) 42)
  try simp only at hX hk0
  go_enter Tryd.func5, Tryd.ntmps5
  go_upto_region 1 with (fail)
  generalize World.alloc w _ = w1 at *
  generalize w.heap.size = xb at hX
  have hg1 : (w1).cell? ⟨0, 0, none⟩ = some (.iface 153 (.agg #[.pointer (some ⟨2, 27, none⟩)])) := hk0.cellSome hg (by simp)
  go_wp2_with fail
  refine (wknown w1 hg1).mono ?_
  rintro e w2 ⟨rfl, hk2⟩
  have hX2 := hX.keep hk2 (by simp)
  have hk02 := hk0.trans hk2
  have hl2 := hl.keep0 hk02
  have hb2 := hb.keep0 hk02
  have hg2 : (w2).cell? ⟨0, 0, none⟩ = some (.iface 153 (.agg #[.pointer (some ⟨2, 27, none⟩)])) := hk02.cellSome hg (by simp)
  clear hk0 hk2 hX hg1
  have hcX := hX2.cell
  have hlX := hX2.lt
  go_wp2_with fail
  refine (few_any ao ac l 80 w2 hl2).mono ?_
  rintro e w' ⟨rfl, hw⟩
  obtain rfl := hw.symm
  generalize few l 80 = q
  cases q with
  | false =>
    go_wp2_with fail
    go_ret
    exact ⟨rfl, hk02⟩
  | true =>
  by_cases h1 : 3000 < s.size
  · have n1 : (3000 : Int) < (s.size : Int) := by omega
    go_wp2_with fail
    go_ret
    exact ⟨rfl, hk02⟩
  have n1 : ¬ ((3000 : Int) < (s.size : Int)) := by omega
  by_cases h2 : 3000 < b.length
  · have n2 : (3000 : Int) < (b.length : Int) := by omega
    go_wp2_with fail
    go_ret
    exact ⟨rfl, hk02⟩
  have n2 : ¬ ((3000 : Int) < (b.length : Int)) := by omega
  have c1 : (if rowOk l then (0 : Int) else 20) = ((if rowOk l then 0 else 20 : Nat) : Int) := by split <;> rfl
  have c2 : (if entOk ⟨t, kd, cl, sq, s⟩ then (0 : Int) else 20) = ((if entOk ⟨t, kd, cl, sq, s⟩ then 0 else 20 : Nat) : Int) := by split <;> rfl
  have c3 : (if b.length ≤ 262144 then (0 : Int) else 20) = ((if b.length ≤ 262144 then 0 else 20 : Nat) : Int) := by split <;> rfl
  have A1 := putRow_any ao ac l w2 hl2 hi
  have B1 := Lib.hid fun W (hW : Keeps [] w2 W) => putRowR_any ao ac l W (hl2.keep0 hW) hi
  have A2 := Lib.hid fun W => putEntry_any t kd cl sq s W ht hcl hsq
  have B2 := Lib.hid fun W => putEntryR_any t kd cl sq s W ht hcl hsq
  have A3 := Lib.hid fun W (hW : Keeps [] w2 W) => frame_any bo bc b W (hb2.keep0 hW)
  have B3 := Lib.hid fun W (hW : Keeps [] w2 W) => frameR_any bo bc b W (hb2.keep0 hW)
  rw [c1] at B1
  rw [c2] at B2
  rw [c3] at B3
  generalize (if rowOk l then putRow l else []) = y1 at *
  generalize (if rowOk l then 0 else 20 : Nat) = f1 at *
  generalize (if entOk ⟨t, kd, cl, sq, s⟩ then putE ⟨t, kd, cl, sq, s⟩ else []) = y2 at *
  generalize (if entOk ⟨t, kd, cl, sq, s⟩ then 0 else 20 : Nat) = f2 at *
  generalize (if b.length ≤ 262144 then frame b else []) = y3 at *
  generalize (if b.length ≤ 262144 then 0 else 20 : Nat) = f3 at *
  clear c1 c2 c3
  go_wp2_with fail
  refine A1.mono ?_
  rintro e w3 ⟨po, pc, pe, rfl, hP, hPE, hk3⟩
  have hp := hP.rb
  have hX3 := hX2.keep hk3 (by simp)
  clear A1 hP hX2 hl hcX hlX
  go_wp2_with fail
  refine (B1.out _ hk3).mono ?_
  rintro e w4 ⟨qo, qc, rfl, hQ, hk4⟩
  have hq := hQ.rb
  have hp4 := hp.keep0 hk4
  have hPE4 := hPE.keep hk4
  have hX4 := hX3.keep hk4 (by simp)
  have hk24 := hk3.trans hk4
  clear B1 hQ hp hPE hX3 hk3 hk4
  have hcX := hX4.cell
  have hlX := hX4.lt
  go_wp2_with fail
  refine (A2.out _).mono ?_
  rintro e w5 ⟨ro, rc, re, rfl, hR, hRE, hk5⟩
  have hr := hR.rb
  have hX5 := hX4.keep hk5 (by simp)
  have hp5 := hp4.keep0 hk5
  have hq5 := hq.keep0 hk5
  have hPE5 := hPE4.keep hk5
  have hk25 := hk24.trans hk5
  clear A2 hR hX4 hp4 hq hPE4 hk24 hk5 hcX hlX
  have hcX := hX5.cell
  have hlX := hX5.lt
  go_wp2_with fail
  refine (B2.out _).mono ?_
  rintro e w6 ⟨so, sc, rfl, hS, hk6⟩
  have hs6 := hS.rb
  have hp6 := hp5.keep0 hk6
  have hq6 := hq5.keep0 hk6
  have hr6 := hr.keep0 hk6
  have hPE6 := hPE5.keep hk6
  have hRE6 := hRE.keep hk6
  have hk26 := hk25.trans hk6
  clear B2 hS hX5 hp5 hq5 hr hPE5 hRE hk25 hk6 hcX hlX
  go_wp2_with fail
  refine (A3.out _ hk26).mono ?_
  rintro e w7 ⟨uo, uc, ue, rfl, hU, hUE, hk7⟩
  have hu := hU.rb
  have hp7 := hp6.keep0 hk7
  have hq7 := hq6.keep0 hk7
  have hr7 := hr6.keep0 hk7
  have hs7 := hs6.keep0 hk7
  have hPE7 := hPE6.keep hk7
  have hRE7 := hRE6.keep hk7
  have hk27 := hk26.trans hk7
  clear A3 hU hp6 hq6 hr6 hs6 hPE6 hRE6 hk26 hk7
  go_wp2_with fail
  refine (B3.out _ hk27).mono ?_
  rintro e w8 ⟨vo, vc, rfl, hV, hk8⟩
  have hv := hV.rb
  have hp8 := hp7.keep0 hk8
  have hq8 := hq7.keep0 hk8
  have hr8 := hr7.keep0 hk8
  have hs8 := hs7.keep0 hk8
  have hu8 := hu.keep0 hk8
  have hPE8 := hPE7.keep hk8
  have hRE8 := hRE7.keep hk8
  have hUE8 := hUE.keep hk8
  have hk28 := hk27.trans hk8
  clear B3 hV hp7 hq7 hr7 hs7 hu hPE7 hRE7 hUE hk27 hk8
  go_wp2_with fail
  refine (bytes_any po qo pc qc y1 y1 w8 hp8 hq8).mono ?_
  rintro e w' ⟨rfl, hw⟩
  obtain rfl := hw.symm
  rw [beq_self_eq_true]
  go_wp2_with fail
  refine (classP_any (hk28.cellSome hg2 (by simp)) hPE8).mono ?_
  rintro e w9 ⟨rfl, hk9⟩
  have hk29 := hk28.trans hk9
  have hr9 := hr8.keep0 hk9
  have hs9 := hs8.keep0 hk9
  have hu9 := hu8.keep0 hk9
  have hv9 := hv.keep0 hk9
  have hRE9 := hRE8.keep hk9
  have hUE9 := hUE8.keep hk9
  clear hk28 hk9 hr8 hs8 hu8 hv hRE8 hUE8 hp8 hq8 hPE8
  go_wp2_with fail
  refine (bytes_any ro so rc sc y2 y2 w9 hr9 hs9).mono ?_
  rintro e w' ⟨rfl, hw⟩
  obtain rfl := hw.symm
  rw [beq_self_eq_true]
  go_wp2_with fail
  refine (classP_any (hk29.cellSome hg2 (by simp)) (.base hRE9)).mono ?_
  rintro e w10 ⟨rfl, hk10⟩
  have hk2a := hk29.trans hk10
  have hu10 := hu9.keep0 hk10
  have hv10 := hv9.keep0 hk10
  have hUE10 := hUE9.keep hk10
  clear hk29 hk10 hu9 hv9 hUE9 hr9 hs9 hRE9
  go_wp2_with fail
  refine (bytes_any uo vo uc vc y3 y3 w10 hu10 hv10).mono ?_
  rintro e w' ⟨rfl, hw⟩
  obtain rfl := hw.symm
  rw [beq_self_eq_true]
  go_wp2_with fail
  refine (classP_any (hk2a.cellSome hg2 (by simp)) (.base hUE10)).mono ?_
  rintro e w11 ⟨rfl, hk11⟩
  have hk2b := hk2a.trans hk11
  have hb11 := hb2.keep0 hk2b
  clear hk2a hk11 hu10 hv10 hUE10
  go_wp2_with fail
  refine (sum_any bo bc b w11 hb11).mono ?_
  rintro e w' ⟨rfl, hw⟩
  obtain rfl := hw.symm
  go_wp2_with fail
  refine (sumR_any bo bc b w11 hb11).mono ?_
  rintro e w' ⟨rfl, hw⟩
  obtain rfl := hw.symm
  go_wp2_with fail
  go_ret
  exact ⟨rfl, hk02.trans hk2b⟩
end Go.Proofs.YtcaahgjepkcenaaDoor
