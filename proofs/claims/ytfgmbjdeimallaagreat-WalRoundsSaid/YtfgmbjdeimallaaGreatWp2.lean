/- A reader of bytes: small, uint, int, count, bytes. Int and Text. -/
import Derived.Test.YtfgmbjdeimallaaGreatWp
import Derived.Test.YtfgmbjdeimallaaGreatWx

namespace Go.Proofs.YtfgmbjdeimallaaGreat
open Go.RowKit Go.Lib

theorem rdU_bounds : ∀ (l : List UInt8) (k acc : Nat), acc < 2 ^ (7 * k) → k ≤ 10 → (rdU k acc l).1 < 18446744073709551616 ∧ (rdU k acc l).2.1 ≤ k + l.length
  | [], k, acc, _, _ => by simp [rdU]
  | b :: l, k, acc, ha, hk => by
    rw [rdU]
    split
    · simp
    · rename_i h
      split
      · rename_i h2
        have hl := shl_lt k b.toNat (by omega)
        have h1 : 2 ^ (7 * k) ≤ 2 ^ 63 := Nat.pow_le_pow_right (by decide) (by omega)
        refine ⟨?_, by simp⟩
        simp only []
        by_cases h9 : k = 9
        · subst h9
          have : b.toNat ≤ 1 := by omega
          have hb : b.toNat * 2 ^ (7 * 9) ≤ 1 * 2 ^ (7 * 9) := Nat.mul_le_mul_right _ this
          omega
        · have h3 : 2 ^ (7 * k) ≤ 2 ^ 56 := Nat.pow_le_pow_right (by decide) (by omega)
          have hb : b.toNat * 2 ^ (7 * k) ≤ 127 * 2 ^ 56 := Nat.mul_le_mul (by omega) h3
          omega
      · have hb := b.toNat_lt
        have := rdU_bounds l (k + 1) (acc + (b.toNat - 128) * 2 ^ (7 * k)) (acc_lt k acc _ ha (by omega)) (by omega)
        simp only [List.length_cons]
        omega
theorem rdU_lt (l : List UInt8) : (rdU 0 0 l).1 < 18446744073709551616 := (rdU_bounds l 0 0 (by decide) (by omega)).1
theorem rdU_size (l : List UInt8) : (rdU 0 0 l).2.1 ≤ l.length := by have := (rdU_bounds l 0 0 (by decide) (by omega)).2; omega
theorem rdU_err : ∀ (l : List UInt8) (k acc : Nat), (rdU k acc l).2.2 ≠ 0 → (rdU k acc l).1 = 0 ∧ (rdU k acc l).2.1 = 0
  | [], k, acc => by simp [rdU]
  | b :: l, k, acc => by
    rw [rdU]
    split
    · simp
    · split
      · simp
      · exact rdU_err l _ _

def St.small (s : St) (m : Nat) : Nat × St := match s.l with
  | [] => s.byte
  | b :: _ => if m < b.toNat then (s.fail 20).byte else s.byte

set_option maxRecDepth 100000 in
set_option maxHeartbeats 1000000 in
theorem rd_small {N : Nat} (r : Nat) (s : St) (m : Nat) (w : World) (h : RdAt N w r s) :
    Calls Tryz.prog 68 #[.pointer (some ⟨r, 0, none⟩), .int .u8 m] w fun e w' => e = .returned (.int .i64 (s.small m).1) ∧ RdAt N w' r (s.small m).2 ∧ Keeps [r] w w' := by
  have hbl : ∀ t : St, IntKind.i64.wrap (t.byte.1 : Int) = t.byte.1 := by
    intro t
    refine IntWalk.i64_in _ ?_
    unfold St.byte
    split
    · simp
    · rename_i b _ _
      have := b.toNat_lt
      split <;> simp only [] <;> omega
  have HB := Lib.hid hbl
  clear hbl
  obtain ⟨ao, c, hS, hn, hm, hc⟩ := h.open
  have hc0 : w.cell? ⟨r, 0, none⟩ = some (.slice ao s.l.length c) := by
    rcases hc with ⟨_, hB⟩ | ⟨_, g, p, hB, _⟩ <;> (rw [hB.cell]; rfl)
  have hlr : r < w.heap.size := by rcases hc with ⟨_, hB⟩ | ⟨_, g, p, hB, _⟩ <;> exact hB.lt
  clear hc
  cases hl : s.l with
  | nil =>
    have hst : s.small m = s.byte := by unfold St.small; rw [hl]
    rw [hst]
    rw [hl] at hc0
    simp only [List.length_nil] at hc0
    have q := HB.out s
    go_enter Tryz.func68, Tryz.ntmps68
    go_wp2_with fail
    refine (rd_byte r s w h).mono ?_
    rintro e w1 ⟨rfl, h1, hk1⟩
    go_wp2_with fail
    go_ret
    exact ⟨rfl, h1, hk1⟩
  | cons b l =>
    have hst : s.small m = if m < b.toNat then (s.fail 20).byte else s.byte := by unfold St.small; rw [hl]
    rw [hst]
    have hpos : 0 < s.l.length := by rw [hl]; simp
    obtain ⟨bb, o, rfl⟩ := hS.at (by have := hS.cap; omega)
    have hcell := hS.cell _ rfl 0 _ (bys_at hpos)
    have hb0 : s.l[0] = b := by simp [hl]
    rw [hb0] at hcell
    simp only [Nat.add_zero] at hcell
    by_cases hmb : m < b.toNat
    · rw [if_pos hmb]
      have q := HB.out (s.fail 20)
      have n1 : (m : Int) < (b.toNat : Int) := by omega
      go_enter Tryz.func68, Tryz.ntmps68
      go_wp2_with fail
      refine (wform _ w).mono ?_
      rintro e w1 ⟨g, rfl, hE, hk1⟩
      go_wp2_with fail
      refine (rd_fails r s _ 20 w1 (h.keep hk1) (ErrF.of hE (by simp)) (by decide)).mono ?_
      rintro e w2 ⟨rfl, h2, hk2⟩
      go_wp2_with fail
      refine (rd_byte r _ w2 h2).mono ?_
      rintro e w3 ⟨rfl, h3, hk3⟩
      go_wp2_with fail
      go_ret
      exact ⟨rfl, h3, (hk1.of_nil.trans hk2).trans hk3⟩
    · rw [if_neg hmb]
      have q := HB.out s
      have n1 : ¬ ((m : Int) < (b.toNat : Int)) := by omega
      go_enter Tryz.func68, Tryz.ntmps68
      go_wp2_with fail
      refine (rd_byte r s w h).mono ?_
      rintro e w1 ⟨rfl, h1, hk1⟩
      go_wp2_with fail
      go_ret
      exact ⟨rfl, h1, hk1⟩

def St.uint (s : St) : Nat × St := if s.f = 0 ∧ (rdU 0 0 s.l).2.2 = 0 then ((rdU 0 0 s.l).1, s.take (rdU 0 0 s.l).2.1 0) else (0, s.fail (rdU 0 0 s.l).2.2)

set_option maxRecDepth 100000 in
set_option maxHeartbeats 1000000 in
theorem rd_uint {N : Nat} (r : Nat) (s : St) (w : World) (h : RdAt N w r s) :
    Calls Tryz.prog 67 #[.pointer (some ⟨r, 0, none⟩)] w fun e w' => e = .returned (.int .u64 s.uint.1) ∧ RdAt N w' r s.uint.2 ∧ Keeps [r] w w' := by
  obtain ⟨ao, c, hS, hn, hm, hc⟩ := h.open
  have hc0 : w.cell? ⟨r, 0, none⟩ = some (.slice ao s.l.length c) := by
    rcases hc with ⟨_, hB⟩ | ⟨_, g, p, hB, _⟩ <;> (rw [hB.cell]; rfl)
  have hlr : r < w.heap.size := by rcases hc with ⟨_, hB⟩ | ⟨_, g, p, hB, _⟩ <;> exact hB.lt
  clear hc
  have hsz := rdU_size s.l
  have hst : s.uint = (if s.f = 0 ∧ (rdU 0 0 s.l).2.2 = 0 then (rdU 0 0 s.l).1 else 0, s.take (rdU 0 0 s.l).2.1 (rdU 0 0 s.l).2.2) := by
    unfold St.uint
    split
    · rename_i h0
      rw [h0.2]
    · rename_i h0
      rw [show s.take (rdU 0 0 s.l).2.1 (rdU 0 0 s.l).2.2 = s.fail (rdU 0 0 s.l).2.2 by unfold St.take; rw [if_neg h0]]
  rw [hst]
  have U := uint_any ao c s.l w hS
  clear hst
  generalize (rdU 0 0 s.l).1 = u at *
  generalize (rdU 0 0 s.l).2.1 = z at *
  generalize (rdU 0 0 s.l).2.2 = f at *
  obtain ⟨x, hx⟩ : ∃ x, x = (if s.f = 0 ∧ f = 0 then u else 0) := ⟨_, rfl⟩
  rw [← hx]
  go_enter Tryz.func67, Tryz.ntmps67
  go_wp2_with fail
  refine U.mono ?_
  rintro e w1 ⟨ev, rfl, hE, hE0, hk1⟩
  clear U
  go_wp2_with fail
  refine (rd_takes r s z ev f w1 (h.keep hk1) (ErrF.of hE hE0) hsz).mono ?_
  rintro e w2 ⟨rfl, h2, hk2⟩
  obtain ⟨ao2, c2, hS2, hn2, hm2, hc2⟩ := h2.open
  have hk02 := hk1.of_nil.trans hk2
  rcases hc2 with ⟨h0, hB2⟩ | ⟨h0, g2, p2, hB2, _⟩
  · have hh : s.f = 0 ∧ f = 0 := by
      unfold St.take at h0
      split at h0
      · assumption
      · rename_i hh
        unfold St.fail at h0
        split at h0 <;> simp_all
    have hx' := Lib.hid (show x = u by rw [hx, if_pos hh])
    clear hh hx
    have hcc := hB2.cell
    have hll := hB2.lt
    go_wp2_with fail
    go_ret
    exact ⟨by rw [hx'.out]; rfl, h2, hk02⟩
  · have hh : ¬ (s.f = 0 ∧ f = 0) := by
      intro hh
      unfold St.take at h0
      rw [if_pos hh] at h0
      exact h0 rfl
    have hx' := Lib.hid (show x = 0 by rw [hx, if_neg hh])
    clear hh hx
    have hcc := hB2.cell
    have hll := hB2.lt
    go_wp2_with fail
    go_ret
    exact ⟨by rw [hx'.out]; rfl, h2, hk02⟩

/-- an integer, of its number -/
def unzig (n : Nat) : Int := if n % 2 = 0 then ((n / 2 : Nat) : Int) else -((n / 2 : Nat) : Int) - 1
theorem unzig_zigzag (k : Int) : unzig (zigzag k) = k := by
  unfold unzig zigzag
  split <;> split <;> omega

theorem intFacts (u : Nat) (h : u < 18446744073709551616) : ∃ m y : Int, bits .and .u64 (u : Int) 1 = m ∧ IntKind.i64.wrap ((u : Int) / 2) = ((u / 2 : Nat) : Int) ∧ IntKind.i64.wrap m = m ∧ IntKind.i64.wrap (-m) = y ∧ bits .xor .i64 ((u / 2 : Nat) : Int) y = unzig u := by
  have e1 : bits .and .u64 (u : Int) 1 = (u : Int) % 2 := u64_and1 _ (by omega) (by omega)
  refine ⟨(u : Int) % 2, -((u : Int) % 2), e1, ?_, IntWalk.i64_in _ (by omega), IntWalk.i64_in _ (by omega), ?_⟩
  · rw [IntWalk.i64_in _ (by omega)]; omega
  · unfold unzig
    have ex : ∀ x : Nat, x < 9223372036854775808 → bits .xor .i64 (x : Int) (-1) = -(x : Int) - 1 := by
      intro x hx
      rw [← i64_not x hx]
      show IntKind.i64.wrap ((BitVec.ofInt 64 (x : Int) ^^^ BitVec.ofInt 64 (-1)).toNat : Int) = IntKind.i64.wrap ((BitVec.ofInt 64 (-1) ^^^ BitVec.ofInt 64 (x : Int)).toNat : Int)
      rw [BitVec.xor_comm]
    have ez : ∀ x : Nat, x < 9223372036854775808 → bits .xor .i64 (x : Int) 0 = (x : Int) := by
      intro x hx
      show IntKind.i64.wrap ((BitVec.ofInt 64 (x : Int) ^^^ BitVec.ofInt 64 0).toNat : Int) = _
      have h0 : BitVec.ofInt 64 0 = 0#64 := by decide
      have h2 : (BitVec.ofInt 64 (x : Int)).toNat = x := by
        rw [BitVec.ofInt_natCast, BitVec.toNat_ofNat]; exact Nat.mod_eq_of_lt (by omega)
      rw [h0, BitVec.xor_zero, h2]
      exact IntWalk.i64_in _ (by omega)
    split
    · rw [show -((u : Int) % 2) = 0 by omega]; exact ez _ (by omega)
    · rw [show -((u : Int) % 2) = -1 by omega]; exact ex _ (by omega)

end Go.Proofs.YtfgmbjdeimallaaGreat
