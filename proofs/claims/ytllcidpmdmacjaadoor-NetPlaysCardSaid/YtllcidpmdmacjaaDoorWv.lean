/- A reader of bytes: int, bytes, value, row. Row. -/
import Derived.Test.YtllcidpmdmacjaaDoorWp2
import Derived.Test.YtllcidpmdmacjaaDoorLaws2
import Derived.StillTailTactics

namespace Go.Proofs.YtllcidpmdmacjaaDoor
open Go.RowKit Go.Lib

def St.int (s : St) : Int × St := if s.f = 0 ∧ (rdU 0 0 s.l).2.2 = 0 then (unzig (rdU 0 0 s.l).1, s.take (rdU 0 0 s.l).2.1 0) else (0, s.fail (rdU 0 0 s.l).2.2)

set_option maxRecDepth 100000 in
set_option maxHeartbeats 1000000 in
theorem rd_int {N : Nat} (r : Nat) (s : St) (w : World) (h : RdAt N w r s) :
    Calls Tryd.prog 58 #[.pointer (some ⟨r, 0, none⟩)] w fun e w' => e = .returned (.int .i64 s.int.1) ∧ RdAt N w' r s.int.2 ∧ Keeps [r] w w' := by
  obtain ⟨ao, c, hS, hn, hm, hc⟩ := h.open
  have hc0 : w.cell? ⟨r, 0, none⟩ = some (.slice ao s.l.length c) := by
    rcases hc with ⟨_, hB⟩ | ⟨_, g, p, hB, _⟩ <;> (rw [hB.cell]; rfl)
  have hlr : r < w.heap.size := by rcases hc with ⟨_, hB⟩ | ⟨_, g, p, hB, _⟩ <;> exact hB.lt
  clear hc
  have hsz := rdU_size s.l
  have hst : s.int = (if s.f = 0 ∧ (rdU 0 0 s.l).2.2 = 0 then unzig (rdU 0 0 s.l).1 else 0, s.take (rdU 0 0 s.l).2.1 (rdU 0 0 s.l).2.2) := by
    unfold St.int
    split
    · rename_i h0
      rw [h0.2]
    · rename_i h0
      rw [show s.take (rdU 0 0 s.l).2.1 (rdU 0 0 s.l).2.2 = s.fail (rdU 0 0 s.l).2.2 by unfold St.take; rw [if_neg h0]]
  rw [hst]
  have U := int_any ao c s.l w hS
  clear hst
  generalize unzig (rdU 0 0 s.l).1 = u at *
  generalize (rdU 0 0 s.l).2.1 = z at *
  generalize (rdU 0 0 s.l).2.2 = f at *
  obtain ⟨x, hx⟩ : ∃ x, x = (if s.f = 0 ∧ f = 0 then u else 0) := ⟨_, rfl⟩
  rw [← hx]
  go_enter Tryd.func58, Tryd.ntmps58
  go_wp2_with fail
  refine U.mono ?_
  rintro e w1 ⟨ev, rfl, hE, hE0, hk1⟩
  clear U
  go_wp2_with fail
  refine (rd_takes r s z ev f w1 (h.keep hk1) (ErrF.of hE hE0) hsz).mono ?_
  rintro e w2 ⟨rfl, h2, hk2⟩
  obtain ⟨ao2, c2, hS2, hn2, hm2, hc2⟩ := h2.open
  have hk02 := hk1.of_nil.trans hk2
  rcases hc2 with ⟨h0, hB2⟩ | ⟨h0, g2, p2, hB2, _⟩
  · have hh : s.f = 0 ∧ f = 0 := by
      unfold St.take at h0
      split at h0
      · assumption
      · rename_i hh
        unfold St.fail at h0
        split at h0 <;> simp_all
    have hx' := Lib.hid (show x = u by rw [hx, if_pos hh])
    clear hh hx
    have hcc := hB2.cell
    have hll := hB2.lt
    go_wp2_with fail
    go_ret
    exact ⟨by rw [hx'.out]; rfl, h2, hk02⟩
  · have hh : ¬ (s.f = 0 ∧ f = 0) := by
      intro hh
      unfold St.take at h0
      rw [if_pos hh] at h0
      exact h0 rfl
    have hx' := Lib.hid (show x = 0 by rw [hx, if_neg hh])
    clear hh hx
    have hcc := hB2.cell
    have hll := hB2.lt
    go_wp2_with fail
    go_ret
    exact ⟨by rw [hx'.out]; rfl, h2, hk02⟩

def St.bytes (s : St) (n : Nat) : List UInt8 × St := if s.l.length < n then ([], s.fail 22) else if s.f = 0 then (s.l.take n, s.take n 0) else ([], s)

set_option maxRecDepth 100000 in
set_option maxHeartbeats 1000000 in
theorem rd_bytes {N : Nat} (r : Nat) (s : St) (n : Nat) (w : World) (h : RdAt N w r s) :
    Calls Tryd.prog 42 #[.pointer (some ⟨r, 0, none⟩), .int .i64 n] w fun e w' => ∃ ao c, e = .returned (.slice ao (s.bytes n).1.length c) ∧ Rb w' ao c (s.bytes n).1 ∧ RdAt N w' r (s.bytes n).2 ∧ Keeps [r] w w' := by
  obtain ⟨ao, c, hS, hn, hm, hc⟩ := h.open
  have hc0 : w.cell? ⟨r, 0, none⟩ = some (.slice ao s.l.length c) := by
    rcases hc with ⟨_, hB⟩ | ⟨_, g, p, hB, _⟩ <;> (rw [hB.cell]; rfl)
  have hlr : r < w.heap.size := by rcases hc with ⟨_, hB⟩ | ⟨_, g, p, hB, _⟩ <;> exact hB.lt
  by_cases hlt : s.l.length < n
  · have hst : s.bytes n = ([], s.fail 22) := by unfold St.bytes; rw [if_pos hlt]
    rw [hst]
    clear hc
    have n1 : (s.l.length : Int) < (n : Int) := by omega
    go_enter Tryd.func42, Tryd.ntmps42
    go_wp2_with fail
    refine (wshort _ w).mono ?_
    rintro e w1 ⟨g, rfl, hE, hk1⟩
    go_wp2_with fail
    refine (rd_fails r s _ 22 w1 (h.keep hk1) (ErrF.of hE (by simp)) (by decide)).mono ?_
    rintro e w2 ⟨rfl, h2, hk2⟩
    obtain ⟨ao2, c2, hS2, hn2, hm2, hc2⟩ := h2.open
    rcases hc2 with ⟨h0, _⟩ | ⟨_, g2, p2, hB2, _⟩
    · exact absurd h0 (fail_f s (by decide))
    have hcc := hB2.cell
    have hll := hB2.lt
    go_wp2_with fail
    go_ret
    exact ⟨none, 0, rfl, Sl.none _ _, h2, hk1.of_nil.trans hk2⟩
  · have n1 : ¬ ((s.l.length : Int) < (n : Int)) := by omega
    rcases hc with ⟨h0, hB⟩ | ⟨h0, g, p, hB, _⟩
    · have hst : s.bytes n = (s.l.take n, s.take n 0) := by unfold St.bytes; rw [if_neg hlt, if_pos h0]
      rw [hst]
      have hcc := hB.cell
      have n2 : n ≤ s.l.length := by omega
      have n3 : n ≤ c := by have := hS.cap; omega
      have hT := hS.take (k := n) (c' := n) n2 (Nat.le_refl _) n3
      have hbt : (bys s.l).take (n * 1) = bys (s.l.take n) := by unfold bys; rw [Nat.mul_one, List.map_take]
      have hln : (s.l.take n).length = n := by simp; omega
      go_enter Tryd.func42, Tryd.ntmps42
      go_wp2_with fail
      refine (rd_takes r s n .nilIface 0 w h (.inl ⟨rfl, rfl⟩) n2).mono ?_
      rintro e w2 ⟨rfl, h2, hk2⟩
      go_wp2_with fail
      go_ret
      refine ⟨ao, n, by rw [hln]; rfl, ?_, h2, hk2⟩
      rw [hbt, ← hln] at hT
      have := hT.keep hk2 (fun ad e hx => by simpa using (hn ad e (bys_ne_take hx)).1)
      rw [hln] at this
      unfold Rb
      rw [hln]
      exact this
    · have hst : s.bytes n = ([], s) := by unfold St.bytes; rw [if_neg hlt, if_neg h0]
      rw [hst]
      have hcc := hB.cell
      go_enter Tryd.func42, Tryd.ntmps42
      go_wp2_with fail
      go_ret
      exact ⟨none, 0, rfl, Sl.none _ _, h, Keeps.refl _ _⟩

set_option maxRecDepth 100000 in
theorem index_any (ao : Option Addr) (c : Nat) (l : List UInt8) (x : UInt8) (w : World) (h : Rb w ao c l) :
    Calls Tryd.prog 62 #[.slice ao l.length c, .int .u8 x.toNat] w fun e w' => ∃ i : Int, e = .returned (.int .i64 i) ∧ (0 ≤ i ↔ x ∈ l) ∧ w' = w := by
  go_enter Tryd.func62, Tryd.ntmps62
  go_wp2_with fail
  go_loopw [8] (fun v wr => ∃ k : Nat, v = .int .i64 (k : Int) ∧ k ≤ l.length ∧ (∀ j, j < k → l[j]? ≠ some x) ∧ wr = w) (fun s _ => l.length - (intOf s).toNat)
  case atStart => exact ⟨0, rfl, by omega, fun j hj => by omega, rfl⟩
  case round =>
    obtain ⟨k, rfl, hk, hno, rfl⟩ := hrel
    have HN := Lib.hid hno
    clear hno
    by_cases hkl : k = l.length
    · subst hkl
      go_wp2_with fail
      go_ret
      refine ⟨-1, rfl, ?_, rfl⟩
      constructor
      · intro h; omega
      · intro hx
        obtain ⟨j, hj⟩ := List.getElem?_of_mem hx
        have hjl := (List.getElem?_eq_some_iff.1 hj).1
        exact absurd hj (HN.out j hjl)
    have hlt2 : k < l.length := by omega
    have hlt3 : (k : Int) < l.length := by omega
    obtain ⟨bb, o, rfl⟩ := h.at (by have := h.cap; omega)
    have hcell := h.cell _ rfl k _ (bys_at hlt2)
    simp only at hcell
    have s2 : IntKind.i64.wrap ((k : Int) + 1) = k + 1 := IntWalk.i64_in _ (by have := h.cap; have := h.most; unfold maxLen at this; omega)
    have hxk : l[k]? = some l[k] := List.getElem?_eq_getElem hlt2
    by_cases hx : l[k] = x
    · rw [hx] at hcell
      go_wp2_with fail
      go_ret
      exact ⟨k, rfl, ⟨fun _ => by rw [← hx]; exact List.getElem_mem _, fun _ => by omega⟩, rfl⟩
    · have hne : ((x.toNat : Int) == (l[k].toNat : Int)) = false := by
        simp only [beq_eq_false_iff_ne, ne_eq]
        intro h
        exact hx (UInt8.toNat_inj.1 (by omega))
      have HX := Lib.hid hx
      have HK := Lib.hid hxk
      clear hx hxk
      generalize hg : l[k] = y at *
      clear hg
      go_wp2_with fail
      go_roundw
      case rel => exact ⟨k + 1, by simp, by omega, fun j hj => by
        rcases Nat.lt_or_ge j k with h1 | h1
        · exact HN.out j h1
        · obtain rfl : j = k := by omega
          rw [HK.out]
          intro e
          exact HX.out (Option.some.inj e), by simp⟩
      case measure => simp [intOf]; omega

set_option maxRecDepth 100000 in
theorem contains_any (ao : Option Addr) (c : Nat) (l : List UInt8) (x : UInt8) (w : World) (h : Rb w ao c l) :
    Calls Tryd.prog 59 #[.slice ao l.length c, .int .u8 x.toNat] w fun e w' => e = .returned (.bool (decide (x ∈ l))) ∧ w' = w := by
  go_enter Tryd.func59, Tryd.ntmps59
  go_wp2_with fail
  refine (index_any ao c l x w h).mono ?_
  rintro e w' ⟨i, rfl, hi, rfl⟩
  have hd : decide (x ∈ l) = decide (0 ≤ i) := by simp [hi]
  have HD := Lib.hid hd
  clear hd hi
  go_wp2_with fail
  go_ret
  exact ⟨by rw [HD.out]; rfl, rfl⟩
end Go.Proofs.YtllcidpmdmacjaaDoor
