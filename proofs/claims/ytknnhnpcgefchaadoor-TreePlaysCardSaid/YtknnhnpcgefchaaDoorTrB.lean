/- Errors of parts, as values: nil, or a part's error of a class. -/
import Derived.Test.YtknnhnpcgefchaaDoorBase
import Derived.Test.YtknnhnpcgefchaaDoorTrA
import Derived.Laws.BitsAllLaws

namespace Go.Proofs.YtknnhnpcgefchaaDoor
open Go.RowKit

/-- in world w the error value is nil (class 0) or a part's error of that class -/
def ErrIs (w : World) (ev : Value) (f : Int) : Prop := (ev = .nilIface ∧ f = 0) ∨ ∃ g p, ev = .iface 74 (.pointer (some ⟨g, 0, none⟩)) ∧ Blk w g 78 #[.string p, .iface 80 (.int .i64 f)]

theorem ErrIs.keep {w w' : World} {ev : Value} {f : Int} (h : ErrIs w ev f) (hk : Keeps [] w w') : ErrIs w' ev f := by
  rcases h with h | ⟨g, p, h1, h2⟩
  · exact .inl h
  · exact .inr ⟨g, p, h1, h2.keep hk (by simp)⟩

/-- an error stays where a block of another type turns -/
theorem ErrIs.keepR {w w' : World} {ev : Value} {f : Int} {r : Nat} {t : TypeId} {cs : Array Value} (h : ErrIs w ev f) (hR : Blk w r t cs) (ht : 78 ≠ t) (hk : Keeps [r] w w') : ErrIs w' ev f := by
  rcases h with h | ⟨g, p, h1, h2⟩
  · exact .inl h
  · exact .inr ⟨g, p, h1, h2.keep hk (by simpa using h2.ne hR ht)⟩

end Go.Proofs.YtknnhnpcgefchaaDoor
/- Numbers read from bytes: what is read, as plain data; Uint of the program and of the document. -/

namespace Go.Proofs.YtknnhnpcgefchaaDoor
open Go.RowKit Go.Lib

/-- a number behind k bytes that stood for acc: the number, all its bytes, the class -/
def rdU : Nat → Nat → List UInt8 → Nat × Nat × Nat
  | k, _, [] => (0, 0, if k = 10 then 20 else 22)
  | k, acc, b :: l => if k = 10 ∨ (k = 9 ∧ 1 < b.toNat) ∨ (b.toNat = 0 ∧ 0 < k) then (0, 0, 20) else
    if b.toNat < 128 then (acc + b.toNat * 2 ^ (7 * k), k + 1, 0) else rdU (k + 1) (acc + (b.toNat - 128) * 2 ^ (7 * k)) l

theorem rdU_ten (acc : Nat) (l : List UInt8) : rdU 10 acc l = (0, 0, 20) := by
  cases l <;> simp [rdU]

theorem shl_lt (k x : Nat) (h : (k ≤ 8 ∧ x < 128) ∨ (k = 9 ∧ x ≤ 1)) : x * 2 ^ (7 * k) < 18446744073709551616 := by
  rcases h with ⟨hk, hx⟩ | ⟨rfl, hx⟩
  · have h1 : 2 ^ (7 * k) ≤ 2 ^ 56 := Nat.pow_le_pow_right (by decide) (by omega)
    have h2 : x * 2 ^ (7 * k) ≤ 127 * 2 ^ 56 := Nat.mul_le_mul (by omega) h1
    omega
  · omega
theorem acc_lt (k acc x : Nat) (ha : acc < 2 ^ (7 * k)) (hx : x < 128) : acc + x * 2 ^ (7 * k) < 2 ^ (7 * (k + 1)) := by
  have e : 2 ^ (7 * (k + 1)) = 128 * 2 ^ (7 * k) := by rw [Nat.mul_add, Nat.pow_add]; omega
  have h2 : x * 2 ^ (7 * k) ≤ 127 * 2 ^ (7 * k) := Nat.mul_le_mul_right _ (by omega)
  omega
theorem u64_orS (k acc x : Nat) (hk : k ≤ 9) (ha : acc < 2 ^ (7 * k)) (hx : x * 2 ^ (7 * k) < 18446744073709551616) :
    bits .or .u64 (acc : Int) ((x * 2 ^ (7 * k) : Nat) : Int) = ((acc + x * 2 ^ (7 * k) : Nat) : Int) := by
  have h1 : 2 ^ (7 * k) ≤ 2 ^ 63 := Nat.pow_le_pow_right (by decide) (by omega)
  rw [u64_or_nat _ _ (by omega) hx, Nat.or_comm, nat_join (7 * k) _ _ (Nat.mul_mod_left _ _) ha, Nat.add_comm]
/-- what the code reckons for one byte -/
theorem orStep (k acc x : Nat) (h : (k ≤ 8 ∧ x < 128) ∨ (k = 9 ∧ x ≤ 1)) (ha : acc < 2 ^ (7 * k)) :
    ∃ y z : Nat, IntKind.u64.wrap ((x : Int) * 2 ^ (7 * k)) = (y : Int) ∧ bits .or .u64 (acc : Int) (y : Int) = (z : Int) ∧ z = acc + x * 2 ^ (7 * k) := by
  have hl := shl_lt k x h
  refine ⟨x * 2 ^ (7 * k), acc + x * 2 ^ (7 * k), ?_, u64_orS k acc x (by omega) ha hl, rfl⟩
  have e : ((x : Int) * 2 ^ (7 * k)) = ((x * 2 ^ (7 * k) : Nat) : Int) := by simp
  rw [e]
  exact IntWalk.u64_in _ (by omega)

theorem wform (p : ByteArray) (w : World) :
    Calls Tryd.prog 64 #[.string p] w fun e w' => ∃ g, e = .returned (.iface 74 (.pointer (some ⟨g, 0, none⟩))) ∧ ErrIs w' (.iface 74 (.pointer (some ⟨g, 0, none⟩))) 20 ∧ Keeps [] w w' := by
  go_enter Tryd.func64, Tryd.ntmps64
  go_wp2
  go_ret
  exact ⟨_, rfl, .inr ⟨_, p, rfl, Blk.fresh _ _ _⟩, (Keeps.refl [] w).alloc _⟩
theorem wshort (p : ByteArray) (w : World) :
    Calls Tryd.prog 63 #[.string p] w fun e w' => ∃ g, e = .returned (.iface 74 (.pointer (some ⟨g, 0, none⟩))) ∧ ErrIs w' (.iface 74 (.pointer (some ⟨g, 0, none⟩))) 22 ∧ Keeps [] w w' := by
  go_enter Tryd.func63, Tryd.ntmps63
  go_wp2
  go_ret
  exact ⟨_, rfl, .inr ⟨_, p, rfl, Blk.fresh _ _ _⟩, (Keeps.refl [] w).alloc _⟩

set_option maxRecDepth 100000 in
set_option maxHeartbeats 8000000 in
theorem uint_any (ao : Option Addr) (c : Nat) (l : List UInt8) (w : World) (h : Rb w ao c l) :
    Calls Tryd.prog 46 #[.slice ao l.length c] w fun e w' => ∃ ev, e = .returned (.tuple #[.int .u64 (rdU 0 0 l).1, .int .i64 (rdU 0 0 l).2.1, ev]) ∧ ErrIs w' ev (rdU 0 0 l).2.2 ∧ (ev = .nilIface ↔ (rdU 0 0 l).2.2 = 0) ∧ Keeps [] w w' := by
  go_enter Tryd.func46, Tryd.ntmps46
  go_wp2_with fail
  go_loopw [5, 8] (fun v s wr => ∃ (k acc : Nat), v = .int .u64 (acc : Int) ∧ s = .int .i64 (k : Int) ∧ k ≤ 10 ∧ k ≤ l.length ∧ acc < 2 ^ (7 * k) ∧ rdU k acc (l.drop k) = rdU 0 0 l ∧ wr = w) (fun _ s _ => 10 - (intOf s).toNat)
  case atStart => exact ⟨0, 0, rfl, rfl, by omega, by omega, by simp, rfl, rfl⟩
  case round =>
    obtain ⟨k, acc, rfl, rfl, hk, hkl, ha, hr, rfl⟩ := hrel
    by_cases h10 : k = 10
    · subst h10
      have hv : rdU 0 0 l = (0, 0, 20) := by rw [← hr]; exact rdU_ten _ _
      go_wp2_with fail
      refine (wform _ _).mono ?_
      rintro e w1 ⟨g, rfl, hE, hk1⟩
      go_wp2_with fail
      go_ret3
      exact ⟨_, by rw [hv]; rfl, by rw [hv]; exact hE, by rw [hv]; simp, hk1⟩
    have hlt : (k : Int) < 10 := by omega
    by_cases hl : k = l.length
    · subst hl
      have hv : rdU 0 0 l = (0, 0, 22) := by rw [← hr, List.drop_length, rdU, if_neg h10]
      go_wp2_with fail
      refine (wshort _ _).mono ?_
      rintro e w1 ⟨g, rfl, hE, hk1⟩
      go_wp2_with fail
      go_ret3
      exact ⟨_, by rw [hv]; rfl, by rw [hv]; exact hE, by rw [hv]; simp, hk1⟩
    have hlt2 : k < l.length := by omega
    obtain ⟨bb, o, rfl⟩ := h.at (by have := h.cap; omega)
    have hcell := h.cell _ rfl k _ (bys_at hlt2)
    simp only at hcell
    rw [List.drop_eq_getElem_cons hlt2, rdU] at hr
    have hb := l[k].toNat_lt
    generalize l[k].toNat = x at *
    have hkl2 : ¬ (l.length ≤ k) := by omega
    have s1 : IntKind.i64.wrap (7 * (k : Int)) = 7 * k := IntWalk.i64_in _ (by omega)
    have s2 : IntKind.i64.wrap ((k : Int) + 1) = k + 1 := IntWalk.i64_in _ (by omega)
    by_cases hA : k = 9 ∧ 1 < x
    · obtain ⟨hA1, hA2⟩ := hA
      have hv : rdU 0 0 l = (0, 0, 20) := by rw [← hr, if_pos (by omega)]
      subst hA1
      have n2 : (1 : Int) < (x : Int) := by omega
      go_wp2_with fail
      refine (wform _ _).mono ?_
      rintro e w1 ⟨g, rfl, hE, hk1⟩
      go_wp2_with fail
      go_ret3
      exact ⟨_, by rw [hv]; rfl, by rw [hv]; exact hE, by rw [hv]; simp, hk1⟩
    by_cases hB : x = 0 ∧ 0 < k
    · obtain ⟨hB1, hB2⟩ := hB
      have hv : rdU 0 0 l = (0, 0, 20) := by rw [← hr, if_pos (by omega)]
      have n3 : ((x : Int) == 0) = true := by simp; omega
      have n2 : ¬ ((1 : Int) < (x : Int)) := by omega
      by_cases h9 : k = 9
      · subst h9
        subst hB1
        go_wp2_with fail
        refine (wform _ _).mono ?_
        rintro e w1 ⟨g, rfl, hE, hk1⟩
        go_wp2_with fail
        go_ret3
        exact ⟨_, by rw [hv]; rfl, by rw [hv]; exact hE, by rw [hv]; simp, hk1⟩
      · have n1 : ((k : Int) == 9) = false := by simp; omega
        go_wp2_with fail
        refine (wform _ _).mono ?_
        rintro e w1 ⟨g, rfl, hE, hk1⟩
        go_wp2_with fail
        go_ret3
        exact ⟨_, by rw [hv]; rfl, by rw [hv]; exact hE, by rw [hv]; simp, hk1⟩
    rw [if_neg (by omega)] at hr
    by_cases hC : x < 128
    · rw [if_pos hC] at hr
      obtain ⟨y, z, hy, hz, hzz⟩ := orStep k acc x (by omega) ha
      have hzz' := Lib.hid hzz
      have n4 : (x : Int) < 128 := by omega
      have s3 : IntKind.u64.wrap (x : Int) = x := IntWalk.u64_in _ (by omega)
      have hr' := Lib.hid hr
      clear hr hzz
      by_cases h9 : k = 9
      · subst h9
        obtain rfl : x = 1 := by omega
        have o1 : bits .or .u64 (acc : Int) 9223372036854775808 = ((acc + 9223372036854775808 : Nat) : Int) := by
          have := u64_orS 9 acc 1 (by omega) ha (by decide)
          simpa using this
        have o2 : z = acc + 9223372036854775808 := by rw [hzz'.out]
        have o3 : (z : Int) = (acc : Int) + 9223372036854775808 := by omega
        clear hy hz
        go_wp2_with fail
        have hr := hr'.out
        rw [← hzz'.out] at hr
        go_ret3
        exact ⟨_, by rw [← hr]; simp [o3], .inl ⟨rfl, by rw [← hr]; rfl⟩, by rw [← hr]; simp, Keeps.refl _ _⟩
      have n1 : ((k : Int) == 9) = false := by simp; omega
      by_cases h0 : x = 0
      · obtain rfl : k = 0 := by omega
        subst h0
        obtain rfl : acc = 0 := by omega
        have hr2 : ((0 : Nat), (1 : Nat), (0 : Nat)) = rdU 0 0 l := hr'.out
        have hr3 := Lib.hid hr2
        clear hr2 hr' hzz'
        have o1 : bits .or .u64 0 0 = 0 := by decide
        simp only [Nat.add_zero] at hcell
        clear hy hz
        have hne : ¬ (l.length = 0) := by omega
        go_wp2_with fail
        have hr := hr3.out
        go_ret3
        exact ⟨_, by rw [← hr]; rfl, .inl ⟨rfl, by rw [← hr]; rfl⟩, by rw [← hr]; simp, Keeps.refl _ _⟩
      · have n3 : ((x : Int) == 0) = false := by simp; omega
        go_wp2_with fail
        have hr := hr'.out
        rw [← hzz'.out] at hr
        go_ret3
        exact ⟨_, by rw [← hr]; rfl, .inl ⟨rfl, by rw [← hr]; rfl⟩, by rw [← hr]; simp, Keeps.refl _ _⟩
    · rw [if_neg hC] at hr
      have e1 : IntKind.u8.wrap ((x : Int) - 128) = ((x - 128 : Nat) : Int) := by rw [IntKind.wrap_u8']; omega
      have n1 : ((k : Int) == 9) = false := by simp; omega
      have n3 : ((x : Int) == 0) = false := by simp; omega
      have n4 : ¬ ((x : Int) < 128) := by omega
      obtain ⟨y, z, hy, hz, hzz⟩ := orStep k acc (x - 128) (by omega) ha
      have hal := acc_lt k acc (x - 128) ha (by omega)
      rw [← hzz] at hal hr
      clear hzz
      have s3 : IntKind.u64.wrap ((x - 128 : Nat) : Int) = ((x - 128 : Nat) : Int) := IntWalk.u64_in _ (by omega)
      generalize x - 128 = u at *
      go_wp2_with fail
      go_roundw
      case rel => exact ⟨k + 1, z, by simp, by simp, by omega, by omega, hal, hr, by simp⟩
      case measure => simp [intOf]; omega

/-- what was written is read, whatever stands behind -/
theorem rdU_uvarint (more : List UInt8) : ∀ (m k acc : Nat), k ≤ 9 → m * 2 ^ (7 * k) < 18446744073709551616 → (k = 0 ∨ m ≠ 0) → rdU k acc (uvarint m ++ more) = (acc + m * 2 ^ (7 * k), k + (uvarint m).length, 0) := by
  intro m
  induction m using Nat.strongRecOn with
  | ind m ih =>
  intro k acc hk hm h0
  by_cases h : m < 128
  · have e : m.toUInt8.toNat = m := by simp only [Nat.toUInt8, UInt8.toNat_ofNat']; omega
    rw [uvarint_small h, List.singleton_append, rdU, e, if_neg, if_pos h]
    · rfl
    · rintro (h1 | ⟨rfl, h2⟩ | ⟨h1, h2⟩)
      · omega
      · have : 2 * 2 ^ (7 * 9) ≤ m * 2 ^ (7 * 9) := Nat.mul_le_mul_right _ (by omega)
        omega
      · omega
  · have e : (m % 128 + 128).toUInt8.toNat = m % 128 + 128 := by simp only [Nat.toUInt8, UInt8.toNat_ofNat']; omega
    have hk9 : k ≤ 8 := by
      rcases Nat.lt_or_ge k 9 with h1 | h1
      · omega
      · obtain rfl : k = 9 := by omega
        have : 128 * 2 ^ (7 * 9) ≤ m * 2 ^ (7 * 9) := Nat.mul_le_mul_right _ (by omega)
        omega
    have ep : 2 ^ (7 * (k + 1)) = 128 * 2 ^ (7 * k) := by rw [Nat.mul_add, Nat.pow_add]; omega
    have em : m * 2 ^ (7 * k) = m % 128 * 2 ^ (7 * k) + m / 128 * (128 * 2 ^ (7 * k)) := by
      rw [← Nat.mul_assoc, ← Nat.add_mul]
      congr 1
      omega
    rw [uvarint_big (by omega), List.cons_append, rdU, e, if_neg (by omega), if_neg (by omega), Nat.add_sub_cancel, ih (m / 128) (by omega) (k + 1) _ (by omega) (by rw [ep]; omega) (.inr (by omega)), ep]
    simp only [List.length_cons, Prod.mk.injEq, and_true]
    omega
theorem rdU_put (n : Nat) (more : List UInt8) (h : n < 18446744073709551616) : rdU 0 0 (uvarint n ++ more) = (n, (uvarint n).length, 0) := by
  rw [rdU_uvarint more n 0 0 (by omega) (by simpa using h) (.inl rfl)]
  simp
end Go.Proofs.YtknnhnpcgefchaaDoor
/- Numbers that were read stand in their own bytes; pairs laid behind the others. -/
namespace Go.Proofs.YtknnhnpcgefchaaDoor
open Go.RowKit Go.Lib

theorem rdU_back : ∀ (l : List UInt8) (k acc n s : Nat), rdU k acc l = (n, s, 0) → ∃ m j, s = k + j ∧ j ≤ l.length ∧ n = acc + m * 2 ^ (7 * k) ∧ l.take j = uvarint m ∧ (0 < k → m ≠ 0)
  | [], k, acc, n, s, h => by
    rw [rdU] at h
    simp only [Prod.mk.injEq] at h
    have := h.2.2
    split at this <;> omega
  | b :: l, k, acc, n, s, h => by
    rw [rdU] at h
    split at h
    · simp only [Prod.mk.injEq] at h
      omega
    · rename_i h1
      split at h
      · rename_i h2
        simp only [Prod.mk.injEq] at h
        refine ⟨b.toNat, 1, by omega, by simp, by omega, ?_, by omega⟩
        rw [uvarint_small h2, List.take_one]
        simp [Nat.toUInt8]
      · rename_i h2
        obtain ⟨m, j, e1, e2, e3, e4, e5⟩ := rdU_back l (k + 1) _ n s h
        have hm := e5 (by omega)
        have hb := b.toNat_lt
        refine ⟨b.toNat - 128 + 128 * m, j + 1, by omega, by simpa using e2, ?_, ?_, by omega⟩
        · rw [e3, show 7 * (k + 1) = 7 * k + 7 by omega, Nat.pow_add, show (2 : Nat) ^ 7 = 128 from rfl]
          generalize 2 ^ (7 * k) = X
          generalize b.toNat - 128 = y
          rw [Nat.add_mul, Nat.mul_comm X 128, ← Nat.mul_assoc, Nat.mul_comm m 128, Nat.add_assoc]
        · rw [uvarint_big (by omega), show (b.toNat - 128 + 128 * m) % 128 = b.toNat - 128 by omega, show (b.toNat - 128 + 128 * m) / 128 = m by omega, List.take_succ_cons, e4]
          have e6 : b.toNat.toUInt8 = b := by simp [Nat.toUInt8]
          rw [show b.toNat - 128 + 128 = b.toNat by omega, e6]
theorem rdU_whole {l : List UInt8} {n s : Nat} (h : rdU 0 0 l = (n, s, 0)) : l = uvarint n ++ l.drop s ∧ s ≤ l.length ∧ (uvarint n).length = s := by
  obtain ⟨m, j, e1, e2, e3, e4, _⟩ := rdU_back l 0 0 n s h
  have hs : s = j := by omega
  have hn : n = m := by simpa using e3
  subst hs hn
  have e5 : (uvarint n).length = s := by rw [← e4, List.length_take]; omega
  refine ⟨?_, e2, e5⟩
  rw [← e4, List.take_append_drop]
theorem ins_end {k v : Bs} {l : List KV} (h : ∀ p ∈ l, ltB p.1 k = true) : ins k v l = l ++ [(k, v)] := by
  unfold ins
  rw [lo_all h, hi_none fun p hp => ltB_asymm (h p hp)]
/-- the last key of pairs -/
def lastK (l : List KV) : Bs := (l.getLast?.map (·.1)).getD []
theorem lastK_snoc (l : List KV) (k v : Bs) : lastK (l ++ [(k, v)]) = k := by simp [lastK]
theorem below_last {l : List KV} {k : Bs} (hs : Srt l) (h : l = [] ∨ ltB (lastK l) k = true) : ∀ p ∈ l, ltB p.1 k = true := by
  rcases h with rfl | h
  · simp
  · intro p hp
    rcases List.eq_nil_or_concat l with rfl | ⟨m, q, rfl⟩
    · cases hp
    · rw [List.concat_eq_append] at *
      obtain ⟨k0, v0⟩ := q
      rw [lastK_snoc] at h
      rcases List.mem_append.1 hp with hp | hp
      · exact ltB_trans ((Srt.app.1 hs).2.2 p hp (k0, v0) (by simp)) h
      · simp at hp
        rw [hp]
        exact h
end Go.Proofs.YtknnhnpcgefchaaDoor
/- Dumps: what is read of one is what it was made of (plain). -/
namespace Go.Proofs.YtknnhnpcgefchaaDoor
open Go.RowKit Go.Lib
/- (as in Wp2) -/
theorem rdU_boundsT : ∀ (l : List UInt8) (k acc : Nat), acc < 2 ^ (7 * k) → k ≤ 10 → (rdU k acc l).1 < 18446744073709551616 ∧ (rdU k acc l).2.1 ≤ k + l.length
  | [], k, acc, _, _ => by simp [rdU]
  | b :: l, k, acc, ha, hk => by
    rw [rdU]
    split
    · simp
    · rename_i h
      split
      · rename_i h2
        have hl := shl_lt k b.toNat (by omega)
        have h1 : 2 ^ (7 * k) ≤ 2 ^ 63 := Nat.pow_le_pow_right (by decide) (by omega)
        refine ⟨?_, by simp⟩
        simp only []
        by_cases h9 : k = 9
        · subst h9
          have : b.toNat ≤ 1 := by omega
          have hb : b.toNat * 2 ^ (7 * 9) ≤ 1 * 2 ^ (7 * 9) := Nat.mul_le_mul_right _ this
          omega
        · have h3 : 2 ^ (7 * k) ≤ 2 ^ 56 := Nat.pow_le_pow_right (by decide) (by omega)
          have hb : b.toNat * 2 ^ (7 * k) ≤ 127 * 2 ^ 56 := Nat.mul_le_mul (by omega) h3
          omega
      · have hb := b.toNat_lt
        have := rdU_boundsT l (k + 1) (acc + (b.toNat - 128) * 2 ^ (7 * k)) (acc_lt k acc _ ha (by omega)) (by omega)
        simp only [List.length_cons]
        omega
theorem rdU_ltT (l : List UInt8) : (rdU 0 0 l).1 < 18446744073709551616 := (rdU_boundsT l 0 0 (by decide) (by omega)).1
theorem tx_inj {x y r s : Bs} (hx : x.length < 18446744073709551616) (hy : y.length < 18446744073709551616) (h : tx x ++ r = tx y ++ s) : x = y ∧ r = s := by
  have h' : uvarint x.length ++ (x ++ r) = uvarint y.length ++ (y ++ s) := by
    simpa [tx, textB, List.append_assoc] using h
  have h1 := rdU_put x.length (x ++ r) hx
  have h2 := rdU_put y.length (y ++ s) hy
  rw [h', h2] at h1
  have hl : y.length = x.length := by simpa using congrArg (·.1) h1
  rw [hl] at h'
  exact List.append_inj (List.append_cancel_left h') hl.symm
/-- these bytes are no dump of keys in order -/
def NotDump (b : Bs) : Prop := ∀ L, Srt L → b ≠ dumpB uvarint L
theorem flat_one_le {l : List KV} {p : KV} (h : p ∈ l) : p.1.length + p.2.length ≤ ((l.map enc).flatten).length := by
  induction l with
  | nil => simp at h
  | cons q r ih =>
    rw [List.map_cons, List.flatten_cons, List.length_append]
    rcases List.mem_cons.1 h with rfl | h
    · simp [enc, tx, textB]
      omega
    · have := ih h
      omega
theorem enc_rest : ∀ {l L : List KV} {rest : Bs}, ((L.map enc).flatten).length ≤ 1000000 → (l.map enc).flatten ++ rest = (L.map enc).flatten → l.length ≤ L.length → ∃ L', L = l ++ L' ∧ rest = (L'.map enc).flatten
  | [], L, rest, _, h, _ => ⟨L, rfl, by simpa using h⟩
  | p :: l, [], rest, _, _, hl => by simp at hl
  | p :: l, q :: L, rest, hb, h, hl => by
    have hq := flat_one_le (l := q :: L) (.head _)
    have hp := flat_one_le (l := p :: l) (.head _)
    have hlen := congrArg List.length h
    rw [List.length_append] at hlen
    simp only [List.map_cons, List.flatten_cons, enc, List.append_assoc] at h
    obtain ⟨h1, h⟩ := tx_inj (by omega) (by omega) h
    obtain ⟨h2, h⟩ := tx_inj (by omega) (by omega) h
    have hbl : ((L.map enc).flatten).length ≤ 1000000 := by
      rw [List.map_cons, List.flatten_cons, List.length_append] at hb
      omega
    obtain ⟨L', e1, e2⟩ := enc_rest hbl h (by simpa using hl)
    refine ⟨L', ?_, e2⟩
    rw [e1, show p = q from Prod.ext h1 h2]
    rfl
theorem dump_rest {n : Nat} {l L : List KV} {rest b : Bs} (hn : n < 18446744073709551616) (hb : b.length ≤ 1000000) (h : b = uvarint n ++ (l.map enc).flatten ++ rest) (hd : b = dumpB uvarint L) (hl : l.length ≤ n) : n = L.length ∧ ∃ L', L = l ++ L' ∧ rest = (L'.map enc).flatten := by
  have hd' : b = uvarint L.length ++ (L.map enc).flatten := hd
  have hL : L.length < 18446744073709551616 := by
    have h1 := congrArg List.length hd'
    rw [List.length_append] at h1
    have h2 : L.length ≤ ((L.map enc).flatten).length := by
      clear hd hd' h h1 hl
      induction L with
      | nil => simp
      | cons p m ih =>
        have : 1 ≤ (enc p).length := by
          have := tx_pos p.1
          simp [enc]
          omega
        simp only [List.map_cons, List.flatten_cons, List.length_append, List.length_cons]
        omega
    omega
  rw [List.append_assoc] at h
  have h1 := rdU_put n ((l.map enc).flatten ++ rest) hn
  have h2 := rdU_put L.length ((L.map enc).flatten) hL
  rw [← h, hd', h2] at h1
  have hnl : L.length = n := by simpa using congrArg (·.1) h1
  have h3 : uvarint n ++ ((l.map enc).flatten ++ rest) = uvarint n ++ (L.map enc).flatten := by rw [← h, hd', hnl]
  have h4 := List.append_cancel_left h3
  have h5 := congrArg List.length hd'
  rw [List.length_append] at h5
  exact ⟨hnl.symm, enc_rest (by omega) h4 (by omega)⟩
section
variable {n : Nat} {l : List KV} {rest b x r : Bs}
theorem nd_more (hn : n < 18446744073709551616) (hb : b.length ≤ 1000000) (h : b = uvarint n ++ (l.map enc).flatten ++ rest) (hl : l.length = n) (hr : rest ≠ []) : NotDump b := fun L _ hd => by
  obtain ⟨e1, L', e2, e3⟩ := dump_rest hn hb h hd (by omega)
  have : L' = [] := by
    have h1 := congrArg List.length e2
    rw [List.length_append] at h1
    exact List.eq_nil_of_length_eq_zero (by omega)
  subst this
  exact hr (by simpa using e3)
theorem nd_head (hn : n < 18446744073709551616) (hb : b.length ≤ 1000000) (h : b = uvarint n ++ (l.map enc).flatten ++ rest) (hl : l.length < n) {L : List KV} (hd : b = dumpB uvarint L) : ∃ p L', L = l ++ p :: L' ∧ rest = tx p.1 ++ (tx p.2 ++ (L'.map enc).flatten) ∧ p.1.length < 18446744073709551616 ∧ p.2.length < 18446744073709551616 := by
  obtain ⟨e1, L', e2, e3⟩ := dump_rest hn hb h hd (by omega)
  cases L' with
  | nil =>
    have h1 := congrArg List.length e2
    rw [List.length_append] at h1
    simp at h1
    omega
  | cons p L' =>
    have h1 := flat_one_le (l := p :: L') (.head _)
    have h2 := congrArg List.length h
    rw [List.length_append, e3] at h2
    exact ⟨p, L', e2, by rw [e3]; simp [enc, List.append_assoc], by omega, by omega⟩
theorem nd_key (hn : n < 18446744073709551616) (hb : b.length ≤ 1000000) (h : b = uvarint n ++ (l.map enc).flatten ++ rest) (hl : l.length < n) (hno : ∀ x r, x.length < 18446744073709551616 → rest ≠ tx x ++ r) : NotDump b := fun L _ hd => by
  obtain ⟨p, L', _, e, e1, _⟩ := nd_head hn hb h hl hd
  exact hno _ _ e1 e
theorem nd_val (hn : n < 18446744073709551616) (hb : b.length ≤ 1000000) (h : b = uvarint n ++ (l.map enc).flatten ++ rest) (hl : l.length < n) (hx : rest = tx x ++ r) (hno : ∀ x' r', x'.length < 18446744073709551616 → r ≠ tx x' ++ r') : NotDump b := fun L _ hd => by
  obtain ⟨p, L', _, e, e1, e2⟩ := nd_head hn hb h hl hd
  have hxl : x.length < 18446744073709551616 := by
    have h1 := congrArg List.length hx
    have h2 := congrArg List.length h
    rw [List.length_append] at h1 h2
    have h3 : x.length ≤ (tx x).length := by simp [tx, textB]
    omega
  obtain ⟨_, e3⟩ := tx_inj hxl e1 (hx.symm.trans e)
  exact hno _ _ e2 e3
theorem nd_ord (hn : n < 18446744073709551616) (hb : b.length ≤ 1000000) (h : b = uvarint n ++ (l.map enc).flatten ++ rest) (hl : l.length < n) (hx : rest = tx x ++ r) (hl0 : l ≠ []) (hc : cmpL (lastK l) x ≠ -1) : NotDump b := fun L hs hd => by
  obtain ⟨p, L', e0, e, e1, e2⟩ := nd_head hn hb h hl hd
  have hxl : x.length < 18446744073709551616 := by
    have h1 := congrArg List.length hx
    have h2 := congrArg List.length h
    rw [List.length_append] at h1 h2
    have h3 : x.length ≤ (tx x).length := by simp [tx, textB]
    omega
  obtain ⟨e3, _⟩ := tx_inj hxl e1 (hx.symm.trans e)
  subst e3
  rw [e0] at hs
  have h1 := (Srt.app.1 hs).2.2
  obtain ⟨q, hq⟩ : ∃ q, l.getLast? = some q := by
    cases hq : l.getLast? with
    | none => exact absurd (List.getLast?_eq_none_iff.1 hq) hl0
    | some q => exact ⟨q, rfl⟩
  have h2 := h1 q (List.mem_of_getLast? hq) p (.head _)
  have h3 : lastK l = q.1 := by simp [lastK, hq]
  rw [h3] at hc
  exact hc (ltB_iff.1 h2)
theorem nd_count {n s er : Nat} (hb : b.length ≤ 1000000) (h : rdU 0 0 b = (n, s, er)) (he : er ≠ 0) : NotDump b := fun L hsr hd => by
  have hd' : b = uvarint L.length ++ (L.map enc).flatten := hd
  have hL : L.length < 18446744073709551616 := by
    have h1 := congrArg List.length hd'
    rw [List.length_append] at h1
    have h2 : L.length ≤ ((L.map enc).flatten).length := by
      clear hd hd' h h1 hsr
      induction L with
      | nil => simp
      | cons p m ih =>
        have : 1 ≤ (enc p).length := by
          have := tx_pos p.1
          simp [enc]
          omega
        simp only [List.map_cons, List.flatten_cons, List.length_append, List.length_cons]
        omega
    omega
  rw [hd', rdU_put _ _ hL] at h
  simp only [Prod.mk.injEq] at h
  exact he h.2.2.symm
theorem nt_err {n s er : Nat} (h : rdU 0 0 b = (n, s, er)) (he : er ≠ 0) : ∀ x r, x.length < 18446744073709551616 → b ≠ tx x ++ r := fun x r hx e => by
  rw [e, show tx x ++ r = uvarint x.length ++ (x ++ r) by simp [tx, textB], rdU_put _ _ hx] at h
  simp only [Prod.mk.injEq] at h
  exact he h.2.2.symm
theorem nt_short {n s : Nat} (h : rdU 0 0 b = (n, s, 0)) (hs : b.length - s < n) : ∀ x r, x.length < 18446744073709551616 → b ≠ tx x ++ r := fun x r hx e => by
  have e' : b = uvarint x.length ++ (x ++ r) := by rw [e]; simp [tx, textB]
  rw [e', rdU_put _ _ hx] at h
  simp only [Prod.mk.injEq] at h
  obtain ⟨h1, h2, _⟩ := h
  have h3 := congrArg List.length e'
  simp only [List.length_append] at h3
  omega
end
end Go.Proofs.YtknnhnpcgefchaaDoor
/- text: bytes with their length ahead; what is refused is none. -/

namespace Go.Proofs.YtknnhnpcgefchaaDoor
open Go.RowKit Go.Lib

/-- a part's error -/
def InW (w : World) (g : Nat) : Prop := ∃ p v, Blk w g 78 #[.string p, v]
theorem InW.keep0 {w w' : World} {g : Nat} (h : InW w g) (hk : Keeps [] w w') : InW w' g := by
  obtain ⟨p, v, h⟩ := h
  exact ⟨p, v, h.keep hk (by simp)⟩
/-- what text hands back -/
def TextAns (ao : Option Addr) (c : Nat) (b : Bs) (w : World) (e : Ending) (w' : World) : Prop :=
  Keeps [] w w' ∧ ((∃ x r a1 a2 c2, e = .returned (.tuple #[.slice a1 x.length x.length, .slice a2 r.length c2, .nilIface]) ∧ b = tx x ++ r ∧ ∀ W, Rb W ao c b → Rb W a1 x.length x ∧ Rb W a2 c2 r) ∨
    (∃ g, e = .returned (.tuple #[.slice none 0 0, .slice none 0 0, .iface 74 (.pointer (some ⟨g, 0, none⟩))]) ∧ InW w' g ∧ Hid (∀ x r, x.length < 18446744073709551616 → b ≠ tx x ++ r)))

theorem text_fin {b : Bs} {n s c bb o : Nat} (hc : b.length ≤ c) (e1 : b = uvarint n ++ b.drop s) (e3 : (uvarint n).length = s) (hs : s ≤ b.length) (hns : n ≤ b.length - s) :
    ((b.drop s).take n).length = n ∧ (b.drop (s + n)).length = b.length - (s + n) ∧ b = tx ((b.drop s).take n) ++ b.drop (s + n) ∧
    ∀ W, Rb W (some ⟨bb, o, none⟩) c b → Rb W (if n = 0 then some ⟨bb, o, none⟩ else some ⟨bb, o + s, none⟩) n ((b.drop s).take n) ∧ Rb W (if c = s + n then some ⟨bb, o, none⟩ else some ⟨bb, o + (s + n), none⟩) (c - (s + n)) (b.drop (s + n)) := by
  have hx : ((b.drop s).take n).length = n := by rw [List.length_take, List.length_drop]; omega
  have hr : (b.drop (s + n)).length = b.length - (s + n) := List.length_drop
  have d1 : ∀ k (l : Bs), (bys l).drop k = bys (l.drop k) := fun k l => by simp [bys, List.map_drop]
  have d2 : ∀ k (l : Bs), (bys l).take k = bys (l.take k) := fun k l => by simp [bys, List.map_take]
  refine ⟨hx, hr, ?_, fun W hW => ⟨?_, ?_⟩⟩
  · unfold tx textB
    rw [hx]
    conv => lhs; rw [e1, ← List.take_append_drop n (b.drop s), List.drop_drop]
    rw [List.append_assoc]
  · by_cases hn : n = 0
    · subst hn
      have := hW.take (k := 0) (c' := 0) (by omega) (by omega) (by omega)
      have e : (b.drop s).take 0 = [] := rfl
      unfold Rb
      rw [if_pos rfl, e]
      simpa [bys] using this
    · rw [if_neg hn]
      have h1 := hW.drop (k := s) hs
      rw [if_neg (by omega), Nat.mul_one, d1] at h1
      have h2 := h1.take (k := n) (c' := n) (by omega) (by omega) (by omega)
      rw [Nat.mul_one, d2] at h2
      unfold Rb
      rw [hx]
      simpa [addr_add] using h2
  · have h1 := hW.drop (k := s + n) (by omega)
    rw [Nat.mul_one, d1] at h1
    unfold Rb
    rw [hr]
    split
    · rename_i h
      rw [if_pos h] at h1
      exact h1
    · rename_i h
      rw [if_neg h] at h1
      simpa [addr_add] using h1

set_option maxRecDepth 100000 in
set_option maxHeartbeats 4000000 in
theorem text_any (ao : Option Addr) (c : Nat) (b : Bs) (w : World) (h : Rb w ao c b) (hl : b.length ≤ 1000000) :
    Calls Tryd.prog 47 #[.slice ao b.length c] w fun e w' => TextAns ao c b w e w' := by
  have HU := uint_any ao c b w h
  obtain ⟨n, s, er, hr⟩ : ∃ n s er, rdU 0 0 b = (n, s, er) := ⟨_, _, _, rfl⟩
  rw [hr] at HU
  have HR := Lib.hid hr
  clear hr
  go_enter Tryd.func47, Tryd.ntmps47
  go_wp2_with fail
  refine HU.mono ?_
  rintro e w1 ⟨ev, rfl, hE, hnil, hk1⟩
  clear HU
  by_cases h0 : er = 0
  · subst h0
    obtain rfl := hnil.2 rfl
    obtain ⟨e1, e2, e3⟩ := rdU_whole HR.out
    have HW := Lib.hid (And.intro e1 e3)
    have hbl := b.length
    have hne : 0 < s := by have := uvarint_pos n; omega
    clear e1 e3 hE hnil
    have q1 : IntKind.i64.wrap ((b.length : Int) - (s : Int)) = ((b.length - s : Nat) : Int) := by rw [IntWalk.i64_in _ (by omega)]; omega
    have q2 : IntKind.u64.wrap ((b.length - s : Nat) : Int) = ((b.length - s : Nat) : Int) := IntWalk.u64_in _ (by omega)
    by_cases hns : b.length - s < n
    · have n1 : ((b.length - s : Nat) : Int) < (n : Int) := by omega
      go_wp2_with fail
      go_ret3
      exact ⟨hk1.alloc _, .inr ⟨_, rfl, ⟨_, _, Blk.fresh _ _ _⟩, Lib.hid (nt_short HR.out hns)⟩⟩
    · have n1 : ¬ (((b.length - s : Nat) : Int) < (n : Int)) := by omega
      have q3 : IntKind.i64.wrap (n : Int) = (n : Int) := IntWalk.i64_in _ (by omega)
      have q4 : IntKind.i64.wrap ((s : Int) + (n : Int)) = ((s + n : Nat) : Int) := by rw [IntWalk.i64_in _ (by omega)]; omega
      have hcap := h.cap
      obtain ⟨bb, o, rfl⟩ := h.at (by omega)
      have p0 : (0 : Int) ≤ (s : Int) := by omega
      have p1 : (s : Int) ≤ ((s + n : Nat) : Int) := by omega
      have p2 : ((s + n : Nat) : Int) ≤ (c : Int) := by omega
      have p3 : ((s + n : Nat) : Int) ≤ (b.length : Int) := by omega
      have p4 : (0 : Int) ≤ ((s + n : Nat) : Int) := by omega
      by_cases hn0 : n = 0
      · by_cases hc : c = s + n
        · go_wp2_with fail
          go_quiet (fail)
          go_wp2_with fail
          go_ret3
          obtain ⟨hx, hr2, hb, hW⟩ := text_fin (bb := bb) (o := o) hcap HW.out.1 HW.out.2 e2 (by omega)
          refine ⟨hk1.drewN _, .inl ⟨(b.drop s).take n, b.drop (s + n), some ⟨bb, o, none⟩, some ⟨bb, o, none⟩, c - (s + n), ?_, hb, fun W h => ?_⟩⟩
          · rw [hx, hr2]
            simp [hn0, hc]
          · have := hW W h
            rw [if_pos hn0, if_pos hc] at this
            rw [hx]
            exact this
        · go_wp2_with fail
          go_quiet (fail)
          go_wp2_with fail
          go_ret3
          obtain ⟨hx, hr2, hb, hW⟩ := text_fin (bb := bb) (o := o) hcap HW.out.1 HW.out.2 e2 (by omega)
          refine ⟨hk1.drewN _, .inl ⟨(b.drop s).take n, b.drop (s + n), some ⟨bb, o, none⟩, some ⟨bb, o + (s + n), none⟩, c - (s + n), ?_, hb, fun W h => ?_⟩⟩
          · rw [hx, hr2]
            simp [hn0]
          · have := hW W h
            rw [if_pos hn0, if_neg hc] at this
            rw [hx]
            exact this
      · by_cases hc : c = s + n
        · go_wp2_with fail
          go_quiet (fail)
          go_wp2_with fail
          go_ret3
          obtain ⟨hx, hr2, hb, hW⟩ := text_fin (bb := bb) (o := o) hcap HW.out.1 HW.out.2 e2 (by omega)
          refine ⟨hk1.drewN _, .inl ⟨(b.drop s).take n, b.drop (s + n), some ⟨bb, o + s, none⟩, some ⟨bb, o, none⟩, c - (s + n), ?_, hb, fun W h => ?_⟩⟩
          · rw [hx, hr2]
            simp [hc]
          · have := hW W h
            rw [if_neg hn0, if_pos hc] at this
            rw [hx]
            exact this
        · go_wp2_with fail
          go_quiet (fail)
          go_wp2_with fail
          go_ret3
          obtain ⟨hx, hr2, hb, hW⟩ := text_fin (bb := bb) (o := o) hcap HW.out.1 HW.out.2 e2 (by omega)
          refine ⟨hk1.drewN _, .inl ⟨(b.drop s).take n, b.drop (s + n), some ⟨bb, o + s, none⟩, some ⟨bb, o + (s + n), none⟩, c - (s + n), ?_, hb, fun W h => ?_⟩⟩
          · rw [hx, hr2]
            simp
          · have := hW W h
            rw [if_neg hn0, if_neg hc] at this
            rw [hx]
            exact this
  · obtain ⟨g, p, rfl, hB⟩ : ∃ g p, ev = .iface 74 (.pointer (some ⟨g, 0, none⟩)) ∧ Blk w1 g 78 #[.string p, .iface 80 (.int .i64 er)] := by
      rcases hE with ⟨rfl, hx⟩ | hE
      · omega
      · exact hE
    go_wp2_with fail
    go_ret3
    exact ⟨hk1.alloc _, .inr ⟨_, rfl, ⟨_, _, Blk.fresh _ _ _⟩, Lib.hid (nt_err HR.out h0)⟩⟩
end Go.Proofs.YtknnhnpcgefchaaDoor
/- load; what is refused is no dump. Turned out of Tr34's text. -/

namespace Go.Proofs.YtknnhnpcgefchaaDoor
open Go.RowKit Go.Lib

/-- load's errors -/
def LErr (w : World) (ev : Value) : Prop :=
  (∃ g, ev = .iface 74 (.pointer (some ⟨g, 0, none⟩)) ∧ InW w g) ∨
  (∃ q a g, ev = .iface 98 (.pointer (some ⟨q, 0, none⟩)) ∧ Blk w q 100 #[.int .i64 a, .iface 74 (.pointer (some ⟨g, 0, none⟩))] ∧ InW w g) ∨
  (∃ q a, ev = .iface 98 (.pointer (some ⟨q, 0, none⟩)) ∧ Blk w q 100 #[.int .i64 a, .iface 80 (.int .i64 20)]) ∨
  ev = .iface 80 (.int .i64 20)
/-- what load hands back -/
def LoadAns (b : Bs) (w : World) (e : Ending) (w' : World) : Prop :=
  Keeps [] w w' ∧ ((∃ t l F, e = .returned (.tuple #[.pointer (some ⟨t, 0, none⟩), .nilIface]) ∧ TreeAt w' F t l ∧ b = dumpB uvarint l) ∨ (∃ ev, e = .returned (.tuple #[.pointer none, ev]) ∧ ev ≠ .nilIface ∧ LErr w' ev ∧ NotDump b))
theorem built_PC (a c : Int) : Tryd.prog.built 100 [(0, .int .i64 a), (1, .iface 80 (.int .i64 c))] = some #[.int .i64 a, .iface 80 (.int .i64 c)] := by kernel_rfl
theorem built_PW (a : Int) (g : Nat) : Tryd.prog.built 100 [(0, .int .i64 a), (1, .iface 74 (.pointer (some ⟨g, 0, none⟩)))] = some #[.int .i64 a, .iface 74 (.pointer (some ⟨g, 0, none⟩))] := by kernel_rfl
theorem flat_len (l : List KV) : l.length ≤ ((l.map enc).flatten).length := by
  induction l with
  | nil => simp
  | cons p m ih =>
    have : 1 ≤ (enc p).length := by
      have := tx_pos p.1
      simp [enc]
      omega
    simp only [List.map_cons, List.flatten_cons, List.length_append, List.length_cons]
    omega
theorem tx_len (b : Bs) : b.length ≤ (tx b).length := by simp [tx, textB]
theorem TreeAt.blk1 {w : World} {F : Nat → Prop} {t : Nat} {l : List KV} (h : TreeAt w F t l) : w.cell? ⟨t, 1, none⟩ = some (.int .i64 (l.length : Nat)) := by
  obtain ⟨⟨d, root, hB, _⟩, _⟩ := h
  exact hB.cell 1

set_option maxRecDepth 100000 in
set_option maxHeartbeats 8000000 in
theorem load_any (ao : Option Addr) (c : Nat) (b : Bs) (w : World) (h : Rb w ao c b) (hl : b.length ≤ 1000000) :
    Calls Tryd.prog 30 #[.slice ao b.length c] w fun e w' => LoadAns b w e w' := by
  have HU := uint_any ao c b w h
  obtain ⟨n, s, er, hr⟩ : ∃ n s er, rdU 0 0 b = (n, s, er) := ⟨_, _, _, rfl⟩
  rw [hr] at HU
  have HR := Lib.hid hr
  have HN := Lib.hid (show n < 18446744073709551616 by have := rdU_ltT b; rw [hr] at this; exact this)
  clear hr
  go_enter Tryd.func30, Tryd.ntmps30
  go_wp2_with fail
  refine HU.mono ?_
  rintro e w1 ⟨ev, rfl, hE, hnil, hk1⟩
  clear HU
  by_cases h0 : er = 0
  · subst h0
    obtain rfl := hnil.2 rfl
    obtain ⟨e1, e2, e3⟩ := rdU_whole HR.out
    have HW := Lib.hid (And.intro e1 e3)
    have hne : 0 < s := by have := uvarint_pos n; omega
    clear e1 e3 hE hnil
    go_wp2_with fail
    refine (tnew w1).mono ?_
    rintro e w2 ⟨t, rfl, hta, hT0, hk2⟩
    have hk02 := hk1.trans hk2
    have hwt : w.heap.size ≤ t := Nat.le_trans hk1.size hta
    have hT : TreeAt w2 (fun x => x ≠ t) t [] := hT0.mono (fun x hx _ => hx.2) (fun h => h rfl)
    have hcap := h.cap
    obtain ⟨bb, o, rfl⟩ := h.at (by omega)
    have HS := Lib.hid (And.intro hT hk02)
    clear hT hT0 hta hk1 hk2 hk02
    have s1 : (s : Int) ≤ (b.length : Int) := by omega
    have s2 : (0 : Int) ≤ (s : Int) := by omega
    have s3 : ((b.length : Int) - (s : Int)) = ((b.length - s : Nat) : Int) := by omega
    obtain ⟨rs, hrs⟩ : ∃ rs, rs = b.drop s := ⟨_, rfl⟩
    have hrl : b.length - s = rs.length := by rw [hrs, List.length_drop]
    obtain ⟨a2, ha2⟩ : ∃ a2 : Option Addr, a2 = (if c = s then some ⟨bb, o, none⟩ else some ⟨bb, o + s, none⟩) := ⟨_, rfl⟩
    have hRs : ∀ W, Rb W (some ⟨bb, o, none⟩) c b → Rb W a2 (c - s) rs := fun W hW => by
      have h1 := hW.drop (k := s) e2
      have e : (bys b).drop (s * 1) = bys rs := by rw [hrs, Nat.mul_one]; simp [bys, List.map_drop]
      rw [e, hrl] at h1
      unfold Rb
      rw [ha2]
      split
      · rename_i hcs
        rw [if_pos hcs] at h1
        exact h1
      · rename_i hcs
        rw [if_neg hcs] at h1
        simpa [addr_add] using h1
    have hb0 : b = uvarint n ++ rs := by rw [hrs]; exact HW.out.1
    have HRS := Lib.hid (And.intro hRs hb0)
    have HA2 := Lib.hid ha2
    have HRL := Lib.hid hrl
    clear hRs hb0 hrs ha2 hrl
    by_cases hcs : c = s
    · go_wp2_with fail
      go_loopw [0, 8, 9] (fun bv lv iv wr => ∃ (l : List KV) (rest : Bs) (ab : Option Addr) (cb : Nat) (la : Option Addr) (lc : Nat), bv = .slice ab rest.length cb ∧ lv = .slice la (lastK l).length lc ∧ iv = .int .u64 (l.length : Nat) ∧ l.length ≤ n ∧ b = uvarint n ++ (l.map enc).flatten ++ rest ∧ (∀ W, Rb W (some ⟨bb, o, none⟩) c b → Rb W ab cb rest ∧ Rb W la lc (lastK l)) ∧ TreeAt wr (fun x => x ≠ t) t l ∧ Keeps [] w wr) (fun _ _ iv _ => n - (intOf iv).toNat)
      case atStart => exact ⟨[], rs, some ⟨bb, o, none⟩, c - s, none, 0, by first | (rw [← HRL.out]; done) | (rw [← HRL.out]; simp [hcs]), rfl, rfl, Nat.zero_le _, by simpa using HRS.out.2, fun W hW => ⟨by have := HRS.out.1 W hW; rw [HA2.out, if_pos hcs] at this; exact this, Sl.none W 1⟩, HS.out.1, HS.out.2⟩
      case round =>
        clear HS s1 s2 s3
        obtain ⟨l, rest, ab, cb, la, lc, rfl, rfl, rfl, hln, hbe, hRW, hT, hkr⟩ := hrel
        obtain ⟨hRr, hRl⟩ := hRW _ (h.keep0 hkr)
        have hll := flat_len l
        have hbl : l.length + rest.length ≤ 1000000 := by
          have := congrArg List.length hbe
          simp only [List.length_append] at this
          omega
        have hsr := hT.srt
        have HBE := Lib.hid hbe
        have HRW := Lib.hid hRW
        clear hbe hRW hll
        rcases (by omega : l.length = n ∨ l.length < n) with hie | hil
        · have n2 : ¬ ((l.length : Int) < (n : Int)) := by omega
          have HIE := Lib.hid hie
          clear hie
          by_cases hr0 : rest = []
          · subst hr0
            go_wp2_with fail
            go_ret2
            refine ⟨hkr, .inl ⟨t, l, _, rfl, hT, ?_⟩⟩
            rw [HBE.out, List.append_nil, ← HIE.out]
            rfl
          · have n3 : (0 : Int) < (rest.length : Int) := by have := List.length_pos_iff.2 hr0; omega
            have HR0 := Lib.hid hr0
            clear hr0
            go_wp2_with fail
            go_ret2
            exact ⟨hkr, .inr ⟨_, rfl, by simp, .inr (.inr (.inr rfl)), nd_more HN.out hl HBE.out HIE.out HR0.out⟩⟩
        · have n2 : (l.length : Int) < (n : Int) := by omega
          have q1 : IntKind.u64.wrap ((l.length : Int) + 1) = (l.length : Int) + 1 := IntWalk.u64_in _ (by omega)
          go_wp2_with fail
          refine (text_any ab cb rest _ hRr (by omega)).mono ?_
          rintro e w3 ⟨hk3, hres⟩
          have hk03 := hkr.trans hk3
          have hT3 := hT.keep0 hk3
          rcases hres with ⟨x, r, a1, a2, c2, rfl, hrx, hW1⟩ | ⟨g, rfl, hgw, hno⟩
          · have hlx : x.length + r.length ≤ rest.length := by
              have h1 := congrArg List.length hrx
              have h2 := tx_len x
              simp only [List.length_append] at h1
              omega
            have HRX := Lib.hid hrx
            have HW1 := Lib.hid hW1
            clear hrx hW1 hT hRr
            go_wp2_with fail
            refine (text_any a2 c2 r _ (HW1.out _ (HRW.out _ (h.keep0 hk03)).1).2 (by omega)).mono ?_
            rintro e w4 ⟨hk4, hres2⟩
            have hk04 := hk03.trans hk4
            have hT4 := hT3.keep0 hk4
            have ct := hT4.blk1
            have htl := hT4.lt
            obtain ⟨hR4, hL4⟩ := HRW.out _ (h.keep0 hk04)
            have hx4 := (HW1.out _ hR4).1
            have hr4 := (HW1.out _ hR4).2
            have bP := built_PC (l.length : Nat) 20
            rcases hres2 with ⟨y, r2, a3, a4, c4, rfl, hry, hW2⟩ | ⟨g, rfl, hgw, hno⟩
            · have hly : y.length + r2.length ≤ r.length := by
                have h1 := congrArg List.length hry
                have h2 := tx_len y
                simp only [List.length_append] at h1
                omega
              have HRY := Lib.hid hry
              have HW2 := Lib.hid hW2
              have hy4 := (hW2 _ hr4).1
              clear hry hW2 hT3
              by_cases hl0 : l = []
              · have HL0 := Lib.hid (show l = [] ∨ ltB (lastK l) x = true from .inl hl0)
                have n5 : ¬ ((0 : Int) < (l.length : Int)) := by subst hl0; simp
                clear hl0
                go_wp2_with fail
                refine (tput (k := x) (v := y) hT4 hx4 hy4 (by omega) (by omega) (by omega)).mono ?_
                rintro e w6 ⟨rfl, hT6, hk6⟩
                have hT7 : TreeAt w6 (fun x => x ≠ t) t (l ++ [(x, y)]) := by
                  have := hT6.mono (F' := fun x => x ≠ t) (fun z hz _ => by
                    rcases hz with hz | hz
                    · exact hz
                    · omega) (fun h => h rfl)
                  rwa [ins_end (below_last hsr HL0.out)] at this
                go_wp2_with fail
                go_roundw
                case rel =>
                  refine ⟨l ++ [(x, y)], r2, a4, c4, a1, x.length, by simp, by rw [lastK_snoc], by simp, by simp; omega, ?_, fun W hW => ⟨(HW2.out W (HW1.out W (HRW.out W hW).1).2).2, by rw [lastK_snoc]; exact (HW1.out W (HRW.out W hW).1).1⟩, hT7, hk04.step hk6 (fun z hz => .inr (by simp at hz; omega))⟩
                  rw [HBE.out, HRX.out, HRY.out]
                  simp [enc]
                case measure => simp [intOf]; omega
              · have n5 : (0 : Int) < (l.length : Int) := by have := List.length_pos_iff.2 hl0; omega
                have HLN := Lib.hid hl0
                clear hl0
                go_wp2_with fail
                refine (bcompare hL4 hx4).mono ?_
                rintro e w5 ⟨rfl, hw⟩
                obtain rfl := hw.symm
                rcases cmpL_range (lastK l) x with hc | hc | hc
                · have HL0 := Lib.hid (show l = [] ∨ ltB (lastK l) x = true from .inr (ltB_iff.2 hc))
                  rw [hc]
                  clear hc
                  go_wp2_with fail
                  refine (tput (k := x) (v := y) hT4 hx4 hy4 (by omega) (by omega) (by omega)).mono ?_
                  rintro e w6 ⟨rfl, hT6, hk6⟩
                  have hT7 : TreeAt w6 (fun x => x ≠ t) t (l ++ [(x, y)]) := by
                    have := hT6.mono (F' := fun x => x ≠ t) (fun z hz _ => by
                      rcases hz with hz | hz
                      · exact hz
                      · omega) (fun h => h rfl)
                    rwa [ins_end (below_last hsr HL0.out)] at this
                  go_wp2_with fail
                  go_roundw
                  case rel =>
                    refine ⟨l ++ [(x, y)], r2, a4, c4, a1, x.length, by simp, by rw [lastK_snoc], by simp, by simp; omega, ?_, fun W hW => ⟨(HW2.out W (HW1.out W (HRW.out W hW).1).2).2, by rw [lastK_snoc]; exact (HW1.out W (HRW.out W hW).1).1⟩, hT7, hk04.step hk6 (fun z hz => .inr (by simp at hz; omega))⟩
                    rw [HBE.out, HRX.out, HRY.out]
                    simp [enc]
                  case measure => simp [intOf]; omega
                · have HCC := Lib.hid (show cmpL (lastK l) x ≠ -1 by omega)
                  rw [hc]
                  clear hc
                  go_upto_region 15 with (fail)
                  have HR0 : (∀ W : World, Keeps [] w4 W → ∀ q ∈ [((3 : Nat), fun w0 : World => w0.cell? ⟨t, 1, none⟩ = some (.int .i64 (l.length : Nat)))], q.2 W) := fun W hW => rds1 (hW.cellSome ct (by simp))
                  have hkd := (Keeps.refl [] w4).drew
                  have hSw := HR0 _ hkd
                  have HRR := Lib.hid HR0
                  clear HR0
                  refine startU [((3 : Nat), fun w0 : World => w0.cell? ⟨t, 1, none⟩ = some (.int .i64 (l.length : Nat)))] (by kernel_rfl) ?_
                  generalize World.drew w4 = w6 at *
                  refine takeU (i := 0) (v := ?_) rfl (by kernel_rfl) (fun _ _ _ h => h) (Or.inl ⟨by rfl, fun w0 hw0 => ?_⟩) (fun p hp _ => hSw p hp) ?_
                  rotate_left
                  · simp [Reads] at hw0
                    go_simp
                    try with_reducible rfl
                  try go_simp
                  refine takeU (i := 1) (v := ?_) rfl (by kernel_rfl) (fun _ _ _ h => h) (Or.inl ⟨by rfl, fun w0 hw0 => ?_⟩) (fun p hp _ => hSw p hp) ?_
                  rotate_left
                  · simp [Reads] at hw0
                    go_simp
                    try with_reducible rfl
                  try go_simp
                  refine takeU (i := 2) (v := ?_) rfl (by kernel_rfl) (fun _ _ _ h => h) (Or.inl ⟨by rfl, fun w0 hw0 => ?_⟩) (fun p hp _ => hSw p hp) ?_
                  rotate_left
                  · simp [Reads] at hw0
                    go_simp
                    try with_reducible rfl
                  try go_simp
                  refine takeU (i := 3) (v := ?_) rfl (by kernel_rfl) (fun _ _ _ h => h) (Or.inl ⟨by rfl, fun w0 hw0 => ?_⟩) (fun p hp _ => hSw p hp) ?_
                  rotate_left
                  · simp [Reads] at hw0
                    go_simp
                    try with_reducible rfl
                  try go_simp
                  refine takeU (i := 4) (v := ?_) rfl (by kernel_rfl) (fun _ _ _ h => h) (Or.inl ⟨by rfl, fun w0 hw0 => ?_⟩) (fun p hp _ => hSw p hp) ?_
                  rotate_left
                  · simp [Reads] at hw0
                    go_simp
                    try with_reducible rfl
                  try go_simp
                  refine takeU (i := 5) (v := ?_) rfl (by kernel_rfl) (fun _ _ _ h => h) (Or.inl ⟨by rfl, fun w0 hw0 => ?_⟩) (fun p hp _ => hSw p hp) ?_
                  rotate_left
                  · simp [Reads] at hw0
                    go_simp
                    try with_reducible rfl
                  try go_simp
                  refine takeU (i := 8) (v := ?_) rfl (by kernel_rfl) (fun _ _ _ h => h) (Or.inl ⟨by rfl, fun w0 hw0 => ?_⟩) (fun p hp _ => hSw p hp) ?_
                  rotate_left
                  · simp [Reads] at hw0
                    go_simp
                    try with_reducible rfl
                  try go_simp
                  clear hSw
                  refine oneU (i := 6) rfl (by kernel_rfl) (fun K hK => ?_)
                  go_simp
                  refine hK _ _ (fun q hq _ _ => HRR.out _ (hkd.alloc _) q hq) ?_
                  clear hK K
                  try go_simp
                  have hSw := HRR.out _ (hkd.alloc (.cells #[.int .i64 (l.length : Nat), .iface 80 (.int .i64 20)] 100))
                  refine takeU (i := 7) (v := ?_) rfl (by kernel_rfl) (fun _ _ _ h => h) (Or.inl ⟨by rfl, fun w0 hw0 => ?_⟩) (fun p hp _ => hSw p hp) ?_
                  rotate_left
                  · simp [Reads] at hw0
                    go_simp
                    try with_reducible rfl
                  try go_simp
                  refine takeU (i := 9) (v := ?_) rfl (by kernel_rfl) (fun _ _ _ h => h) (Or.inl ⟨by rfl, fun w0 hw0 => ?_⟩) (fun p hp _ => hSw p hp) ?_
                  rotate_left
                  · simp [Reads] at hw0
                    go_simp
                    try with_reducible rfl
                  try go_simp
                  clear hSw
                  refine doneU (by kernel_rfl) ?_
                  go_wp2_with fail
                  go_ret2
                  exact ⟨(hk04.trans hkd).alloc _, .inr ⟨_, rfl, by simp, .inr (.inr (.inl ⟨_, _, rfl, Blk.fresh _ _ _⟩)), nd_ord HN.out hl HBE.out hil HRX.out HLN.out HCC.out⟩⟩
                · have HCC := Lib.hid (show cmpL (lastK l) x ≠ -1 by omega)
                  rw [hc]
                  clear hc
                  go_upto_region 15 with (fail)
                  have HR0 : (∀ W : World, Keeps [] w4 W → ∀ q ∈ [((3 : Nat), fun w0 : World => w0.cell? ⟨t, 1, none⟩ = some (.int .i64 (l.length : Nat)))], q.2 W) := fun W hW => rds1 (hW.cellSome ct (by simp))
                  have hkd := (Keeps.refl [] w4).drew
                  have hSw := HR0 _ hkd
                  have HRR := Lib.hid HR0
                  clear HR0
                  refine startU [((3 : Nat), fun w0 : World => w0.cell? ⟨t, 1, none⟩ = some (.int .i64 (l.length : Nat)))] (by kernel_rfl) ?_
                  generalize World.drew w4 = w6 at *
                  refine takeU (i := 0) (v := ?_) rfl (by kernel_rfl) (fun _ _ _ h => h) (Or.inl ⟨by rfl, fun w0 hw0 => ?_⟩) (fun p hp _ => hSw p hp) ?_
                  rotate_left
                  · simp [Reads] at hw0
                    go_simp
                    try with_reducible rfl
                  try go_simp
                  refine takeU (i := 1) (v := ?_) rfl (by kernel_rfl) (fun _ _ _ h => h) (Or.inl ⟨by rfl, fun w0 hw0 => ?_⟩) (fun p hp _ => hSw p hp) ?_
                  rotate_left
                  · simp [Reads] at hw0
                    go_simp
                    try with_reducible rfl
                  try go_simp
                  refine takeU (i := 2) (v := ?_) rfl (by kernel_rfl) (fun _ _ _ h => h) (Or.inl ⟨by rfl, fun w0 hw0 => ?_⟩) (fun p hp _ => hSw p hp) ?_
                  rotate_left
                  · simp [Reads] at hw0
                    go_simp
                    try with_reducible rfl
                  try go_simp
                  refine takeU (i := 3) (v := ?_) rfl (by kernel_rfl) (fun _ _ _ h => h) (Or.inl ⟨by rfl, fun w0 hw0 => ?_⟩) (fun p hp _ => hSw p hp) ?_
                  rotate_left
                  · simp [Reads] at hw0
                    go_simp
                    try with_reducible rfl
                  try go_simp
                  refine takeU (i := 4) (v := ?_) rfl (by kernel_rfl) (fun _ _ _ h => h) (Or.inl ⟨by rfl, fun w0 hw0 => ?_⟩) (fun p hp _ => hSw p hp) ?_
                  rotate_left
                  · simp [Reads] at hw0
                    go_simp
                    try with_reducible rfl
                  try go_simp
                  refine takeU (i := 5) (v := ?_) rfl (by kernel_rfl) (fun _ _ _ h => h) (Or.inl ⟨by rfl, fun w0 hw0 => ?_⟩) (fun p hp _ => hSw p hp) ?_
                  rotate_left
                  · simp [Reads] at hw0
                    go_simp
                    try with_reducible rfl
                  try go_simp
                  refine takeU (i := 8) (v := ?_) rfl (by kernel_rfl) (fun _ _ _ h => h) (Or.inl ⟨by rfl, fun w0 hw0 => ?_⟩) (fun p hp _ => hSw p hp) ?_
                  rotate_left
                  · simp [Reads] at hw0
                    go_simp
                    try with_reducible rfl
                  try go_simp
                  clear hSw
                  refine oneU (i := 6) rfl (by kernel_rfl) (fun K hK => ?_)
                  go_simp
                  refine hK _ _ (fun q hq _ _ => HRR.out _ (hkd.alloc _) q hq) ?_
                  clear hK K
                  try go_simp
                  have hSw := HRR.out _ (hkd.alloc (.cells #[.int .i64 (l.length : Nat), .iface 80 (.int .i64 20)] 100))
                  refine takeU (i := 7) (v := ?_) rfl (by kernel_rfl) (fun _ _ _ h => h) (Or.inl ⟨by rfl, fun w0 hw0 => ?_⟩) (fun p hp _ => hSw p hp) ?_
                  rotate_left
                  · simp [Reads] at hw0
                    go_simp
                    try with_reducible rfl
                  try go_simp
                  refine takeU (i := 9) (v := ?_) rfl (by kernel_rfl) (fun _ _ _ h => h) (Or.inl ⟨by rfl, fun w0 hw0 => ?_⟩) (fun p hp _ => hSw p hp) ?_
                  rotate_left
                  · simp [Reads] at hw0
                    go_simp
                    try with_reducible rfl
                  try go_simp
                  clear hSw
                  refine doneU (by kernel_rfl) ?_
                  go_wp2_with fail
                  go_ret2
                  exact ⟨(hk04.trans hkd).alloc _, .inr ⟨_, rfl, by simp, .inr (.inr (.inl ⟨_, _, rfl, Blk.fresh _ _ _⟩)), nd_ord HN.out hl HBE.out hil HRX.out HLN.out HCC.out⟩⟩
            · clear hT3
              go_upto_region 15 with (fail)
              have HR0 : (∀ W : World, Keeps [] w4 W → ∀ q ∈ [((3 : Nat), fun w0 : World => w0.cell? ⟨t, 1, none⟩ = some (.int .i64 (l.length : Nat)))], q.2 W) := fun W hW => rds1 (hW.cellSome ct (by simp))
              have hkd := (Keeps.refl [] w4).drew
              have hSw := HR0 _ hkd
              have HRR := Lib.hid HR0
              clear HR0
              refine startU [((3 : Nat), fun w0 : World => w0.cell? ⟨t, 1, none⟩ = some (.int .i64 (l.length : Nat)))] (by kernel_rfl) ?_
              generalize World.drew w4 = w6 at *
              refine takeU (i := 0) (v := ?_) rfl (by kernel_rfl) (fun _ _ _ h => h) (Or.inl ⟨by rfl, fun w0 hw0 => ?_⟩) (fun p hp _ => hSw p hp) ?_
              rotate_left
              · simp [Reads] at hw0
                go_simp
                try with_reducible rfl
              try go_simp
              refine takeU (i := 1) (v := ?_) rfl (by kernel_rfl) (fun _ _ _ h => h) (Or.inl ⟨by rfl, fun w0 hw0 => ?_⟩) (fun p hp _ => hSw p hp) ?_
              rotate_left
              · simp [Reads] at hw0
                go_simp
                try with_reducible rfl
              try go_simp
              refine takeU (i := 2) (v := ?_) rfl (by kernel_rfl) (fun _ _ _ h => h) (Or.inl ⟨by rfl, fun w0 hw0 => ?_⟩) (fun p hp _ => hSw p hp) ?_
              rotate_left
              · simp [Reads] at hw0
                go_simp
                try with_reducible rfl
              try go_simp
              refine takeU (i := 3) (v := ?_) rfl (by kernel_rfl) (fun _ _ _ h => h) (Or.inl ⟨by rfl, fun w0 hw0 => ?_⟩) (fun p hp _ => hSw p hp) ?_
              rotate_left
              · simp [Reads] at hw0
                go_simp
                try with_reducible rfl
              try go_simp
              refine takeU (i := 4) (v := ?_) rfl (by kernel_rfl) (fun _ _ _ h => h) (Or.inl ⟨by rfl, fun w0 hw0 => ?_⟩) (fun p hp _ => hSw p hp) ?_
              rotate_left
              · simp [Reads] at hw0
                go_simp
                try with_reducible rfl
              try go_simp
              refine takeU (i := 5) (v := ?_) rfl (by kernel_rfl) (fun _ _ _ h => h) (Or.inl ⟨by rfl, fun w0 hw0 => ?_⟩) (fun p hp _ => hSw p hp) ?_
              rotate_left
              · simp [Reads] at hw0
                go_simp
                try with_reducible rfl
              try go_simp
              refine takeU (i := 8) (v := ?_) rfl (by kernel_rfl) (fun _ _ _ h => h) (Or.inl ⟨by rfl, fun w0 hw0 => ?_⟩) (fun p hp _ => hSw p hp) ?_
              rotate_left
              · simp [Reads] at hw0
                go_simp
                try with_reducible rfl
              try go_simp
              clear hSw
              refine oneU (i := 6) rfl (by kernel_rfl) (fun K hK => ?_)
              go_simp
              refine hK _ _ (fun q hq _ _ => HRR.out _ (hkd.alloc _) q hq) ?_
              clear hK K
              try go_simp
              have hSw := HRR.out _ (hkd.alloc (.cells #[.int .i64 (l.length : Nat), .iface 80 (.int .i64 20)] 100))
              refine takeU (i := 7) (v := ?_) rfl (by kernel_rfl) (fun _ _ _ h => h) (Or.inl ⟨by rfl, fun w0 hw0 => ?_⟩) (fun p hp _ => hSw p hp) ?_
              rotate_left
              · simp [Reads] at hw0
                go_simp
                try with_reducible rfl
              try go_simp
              refine takeU (i := 9) (v := ?_) rfl (by kernel_rfl) (fun _ _ _ h => h) (Or.inl ⟨by rfl, fun w0 hw0 => ?_⟩) (fun p hp _ => hSw p hp) ?_
              rotate_left
              · simp [Reads] at hw0
                go_simp
                try with_reducible rfl
              try go_simp
              clear hSw
              refine doneU (by kernel_rfl) ?_
              go_wp2_with fail
              go_ret2
              exact ⟨(hk04.trans hkd).alloc _, .inr ⟨_, rfl, by simp, .inr (.inr (.inl ⟨_, _, rfl, Blk.fresh _ _ _⟩)), nd_val HN.out hl HBE.out hil HRX.out hno.out⟩⟩
          · have ct := hT3.blk1
            have htl := hT3.lt
            have bP := built_PW (l.length : Nat) g
            go_upto_region 12 with (fail)
            have HR0 : (∀ W : World, Keeps [] w3 W → ∀ q ∈ [((3 : Nat), fun w0 : World => w0.cell? ⟨t, 1, none⟩ = some (.int .i64 (l.length : Nat)))], q.2 W) := fun W hW => rds1 (hW.cellSome ct (by simp))
            have hkd := (Keeps.refl [] w3).drew
            have hSw := HR0 _ hkd
            have HRR := Lib.hid HR0
            clear HR0
            refine startU [((3 : Nat), fun w0 : World => w0.cell? ⟨t, 1, none⟩ = some (.int .i64 (l.length : Nat)))] (by kernel_rfl) ?_
            generalize World.drew w3 = w6 at *
            refine takeU (i := 0) (v := ?_) rfl (by kernel_rfl) (fun _ _ _ h => h) (Or.inl ⟨by rfl, fun w0 hw0 => ?_⟩) (fun p hp _ => hSw p hp) ?_
            rotate_left
            · simp [Reads] at hw0
              go_simp
              try with_reducible rfl
            try go_simp
            refine takeU (i := 1) (v := ?_) rfl (by kernel_rfl) (fun _ _ _ h => h) (Or.inl ⟨by rfl, fun w0 hw0 => ?_⟩) (fun p hp _ => hSw p hp) ?_
            rotate_left
            · simp [Reads] at hw0
              go_simp
              try with_reducible rfl
            try go_simp
            refine takeU (i := 2) (v := ?_) rfl (by kernel_rfl) (fun _ _ _ h => h) (Or.inl ⟨by rfl, fun w0 hw0 => ?_⟩) (fun p hp _ => hSw p hp) ?_
            rotate_left
            · simp [Reads] at hw0
              go_simp
              try with_reducible rfl
            try go_simp
            refine takeU (i := 3) (v := ?_) rfl (by kernel_rfl) (fun _ _ _ h => h) (Or.inl ⟨by rfl, fun w0 hw0 => ?_⟩) (fun p hp _ => hSw p hp) ?_
            rotate_left
            · simp [Reads] at hw0
              go_simp
              try with_reducible rfl
            try go_simp
            refine takeU (i := 4) (v := ?_) rfl (by kernel_rfl) (fun _ _ _ h => h) (Or.inl ⟨by rfl, fun w0 hw0 => ?_⟩) (fun p hp _ => hSw p hp) ?_
            rotate_left
            · simp [Reads] at hw0
              go_simp
              try with_reducible rfl
            try go_simp
            refine takeU (i := 5) (v := ?_) rfl (by kernel_rfl) (fun _ _ _ h => h) (Or.inl ⟨by rfl, fun w0 hw0 => ?_⟩) (fun p hp _ => hSw p hp) ?_
            rotate_left
            · simp [Reads] at hw0
              go_simp
              try with_reducible rfl
            try go_simp
            refine takeU (i := 8) (v := ?_) rfl (by kernel_rfl) (fun _ _ _ h => h) (Or.inl ⟨by rfl, fun w0 hw0 => ?_⟩) (fun p hp _ => hSw p hp) ?_
            rotate_left
            · simp [Reads] at hw0
              go_simp
              try with_reducible rfl
            try go_simp
            clear hSw
            refine oneU (i := 6) rfl (by kernel_rfl) (fun K hK => ?_)
            go_simp
            refine hK _ _ (fun q hq _ _ => HRR.out _ (hkd.alloc _) q hq) ?_
            clear hK K
            try go_simp
            have hSw := HRR.out _ (hkd.alloc (.cells #[.int .i64 (l.length : Nat), .iface 74 (.pointer (some ⟨g, 0, none⟩))] 100))
            refine takeU (i := 7) (v := ?_) rfl (by kernel_rfl) (fun _ _ _ h => h) (Or.inl ⟨by rfl, fun w0 hw0 => ?_⟩) (fun p hp _ => hSw p hp) ?_
            rotate_left
            · simp [Reads] at hw0
              go_simp
              try with_reducible rfl
            try go_simp
            refine takeU (i := 9) (v := ?_) rfl (by kernel_rfl) (fun _ _ _ h => h) (Or.inl ⟨by rfl, fun w0 hw0 => ?_⟩) (fun p hp _ => hSw p hp) ?_
            rotate_left
            · simp [Reads] at hw0
              go_simp
              try with_reducible rfl
            try go_simp
            clear hSw
            refine doneU (by kernel_rfl) ?_
            go_wp2_with fail
            go_ret2
            exact ⟨(hk03.trans hkd).alloc _, .inr ⟨_, rfl, by simp, .inr (.inl ⟨_, _, g, rfl, Blk.fresh _ _ _, (hgw.keep0 hkd).keep0 ((Keeps.refl [] _).alloc _)⟩), nd_key HN.out hl HBE.out hil hno.out⟩⟩
    · go_wp2_with fail
      go_loopw [0, 8, 9] (fun bv lv iv wr => ∃ (l : List KV) (rest : Bs) (ab : Option Addr) (cb : Nat) (la : Option Addr) (lc : Nat), bv = .slice ab rest.length cb ∧ lv = .slice la (lastK l).length lc ∧ iv = .int .u64 (l.length : Nat) ∧ l.length ≤ n ∧ b = uvarint n ++ (l.map enc).flatten ++ rest ∧ (∀ W, Rb W (some ⟨bb, o, none⟩) c b → Rb W ab cb rest ∧ Rb W la lc (lastK l)) ∧ TreeAt wr (fun x => x ≠ t) t l ∧ Keeps [] w wr) (fun _ _ iv _ => n - (intOf iv).toNat)
      case atStart => exact ⟨[], rs, some ⟨bb, o + s, none⟩, c - s, none, 0, by first | (rw [← HRL.out]; done) | (rw [← HRL.out]; simp [hcs]), rfl, rfl, Nat.zero_le _, by simpa using HRS.out.2, fun W hW => ⟨by have := HRS.out.1 W hW; rw [HA2.out, if_neg hcs] at this; exact this, Sl.none W 1⟩, HS.out.1, HS.out.2⟩
      case round =>
        clear HS s1 s2 s3
        obtain ⟨l, rest, ab, cb, la, lc, rfl, rfl, rfl, hln, hbe, hRW, hT, hkr⟩ := hrel
        obtain ⟨hRr, hRl⟩ := hRW _ (h.keep0 hkr)
        have hll := flat_len l
        have hbl : l.length + rest.length ≤ 1000000 := by
          have := congrArg List.length hbe
          simp only [List.length_append] at this
          omega
        have hsr := hT.srt
        have HBE := Lib.hid hbe
        have HRW := Lib.hid hRW
        clear hbe hRW hll
        rcases (by omega : l.length = n ∨ l.length < n) with hie | hil
        · have n2 : ¬ ((l.length : Int) < (n : Int)) := by omega
          have HIE := Lib.hid hie
          clear hie
          by_cases hr0 : rest = []
          · subst hr0
            go_wp2_with fail
            go_ret2
            refine ⟨hkr, .inl ⟨t, l, _, rfl, hT, ?_⟩⟩
            rw [HBE.out, List.append_nil, ← HIE.out]
            rfl
          · have n3 : (0 : Int) < (rest.length : Int) := by have := List.length_pos_iff.2 hr0; omega
            have HR0 := Lib.hid hr0
            clear hr0
            go_wp2_with fail
            go_ret2
            exact ⟨hkr, .inr ⟨_, rfl, by simp, .inr (.inr (.inr rfl)), nd_more HN.out hl HBE.out HIE.out HR0.out⟩⟩
        · have n2 : (l.length : Int) < (n : Int) := by omega
          have q1 : IntKind.u64.wrap ((l.length : Int) + 1) = (l.length : Int) + 1 := IntWalk.u64_in _ (by omega)
          go_wp2_with fail
          refine (text_any ab cb rest _ hRr (by omega)).mono ?_
          rintro e w3 ⟨hk3, hres⟩
          have hk03 := hkr.trans hk3
          have hT3 := hT.keep0 hk3
          rcases hres with ⟨x, r, a1, a2, c2, rfl, hrx, hW1⟩ | ⟨g, rfl, hgw, hno⟩
          · have hlx : x.length + r.length ≤ rest.length := by
              have h1 := congrArg List.length hrx
              have h2 := tx_len x
              simp only [List.length_append] at h1
              omega
            have HRX := Lib.hid hrx
            have HW1 := Lib.hid hW1
            clear hrx hW1 hT hRr
            go_wp2_with fail
            refine (text_any a2 c2 r _ (HW1.out _ (HRW.out _ (h.keep0 hk03)).1).2 (by omega)).mono ?_
            rintro e w4 ⟨hk4, hres2⟩
            have hk04 := hk03.trans hk4
            have hT4 := hT3.keep0 hk4
            have ct := hT4.blk1
            have htl := hT4.lt
            obtain ⟨hR4, hL4⟩ := HRW.out _ (h.keep0 hk04)
            have hx4 := (HW1.out _ hR4).1
            have hr4 := (HW1.out _ hR4).2
            have bP := built_PC (l.length : Nat) 20
            rcases hres2 with ⟨y, r2, a3, a4, c4, rfl, hry, hW2⟩ | ⟨g, rfl, hgw, hno⟩
            · have hly : y.length + r2.length ≤ r.length := by
                have h1 := congrArg List.length hry
                have h2 := tx_len y
                simp only [List.length_append] at h1
                omega
              have HRY := Lib.hid hry
              have HW2 := Lib.hid hW2
              have hy4 := (hW2 _ hr4).1
              clear hry hW2 hT3
              by_cases hl0 : l = []
              · have HL0 := Lib.hid (show l = [] ∨ ltB (lastK l) x = true from .inl hl0)
                have n5 : ¬ ((0 : Int) < (l.length : Int)) := by subst hl0; simp
                clear hl0
                go_wp2_with fail
                refine (tput (k := x) (v := y) hT4 hx4 hy4 (by omega) (by omega) (by omega)).mono ?_
                rintro e w6 ⟨rfl, hT6, hk6⟩
                have hT7 : TreeAt w6 (fun x => x ≠ t) t (l ++ [(x, y)]) := by
                  have := hT6.mono (F' := fun x => x ≠ t) (fun z hz _ => by
                    rcases hz with hz | hz
                    · exact hz
                    · omega) (fun h => h rfl)
                  rwa [ins_end (below_last hsr HL0.out)] at this
                go_wp2_with fail
                go_roundw
                case rel =>
                  refine ⟨l ++ [(x, y)], r2, a4, c4, a1, x.length, by simp, by rw [lastK_snoc], by simp, by simp; omega, ?_, fun W hW => ⟨(HW2.out W (HW1.out W (HRW.out W hW).1).2).2, by rw [lastK_snoc]; exact (HW1.out W (HRW.out W hW).1).1⟩, hT7, hk04.step hk6 (fun z hz => .inr (by simp at hz; omega))⟩
                  rw [HBE.out, HRX.out, HRY.out]
                  simp [enc]
                case measure => simp [intOf]; omega
              · have n5 : (0 : Int) < (l.length : Int) := by have := List.length_pos_iff.2 hl0; omega
                have HLN := Lib.hid hl0
                clear hl0
                go_wp2_with fail
                refine (bcompare hL4 hx4).mono ?_
                rintro e w5 ⟨rfl, hw⟩
                obtain rfl := hw.symm
                rcases cmpL_range (lastK l) x with hc | hc | hc
                · have HL0 := Lib.hid (show l = [] ∨ ltB (lastK l) x = true from .inr (ltB_iff.2 hc))
                  rw [hc]
                  clear hc
                  go_wp2_with fail
                  refine (tput (k := x) (v := y) hT4 hx4 hy4 (by omega) (by omega) (by omega)).mono ?_
                  rintro e w6 ⟨rfl, hT6, hk6⟩
                  have hT7 : TreeAt w6 (fun x => x ≠ t) t (l ++ [(x, y)]) := by
                    have := hT6.mono (F' := fun x => x ≠ t) (fun z hz _ => by
                      rcases hz with hz | hz
                      · exact hz
                      · omega) (fun h => h rfl)
                    rwa [ins_end (below_last hsr HL0.out)] at this
                  go_wp2_with fail
                  go_roundw
                  case rel =>
                    refine ⟨l ++ [(x, y)], r2, a4, c4, a1, x.length, by simp, by rw [lastK_snoc], by simp, by simp; omega, ?_, fun W hW => ⟨(HW2.out W (HW1.out W (HRW.out W hW).1).2).2, by rw [lastK_snoc]; exact (HW1.out W (HRW.out W hW).1).1⟩, hT7, hk04.step hk6 (fun z hz => .inr (by simp at hz; omega))⟩
                    rw [HBE.out, HRX.out, HRY.out]
                    simp [enc]
                  case measure => simp [intOf]; omega
                · have HCC := Lib.hid (show cmpL (lastK l) x ≠ -1 by omega)
                  rw [hc]
                  clear hc
                  go_upto_region 15 with (fail)
                  have HR0 : (∀ W : World, Keeps [] w4 W → ∀ q ∈ [((3 : Nat), fun w0 : World => w0.cell? ⟨t, 1, none⟩ = some (.int .i64 (l.length : Nat)))], q.2 W) := fun W hW => rds1 (hW.cellSome ct (by simp))
                  have hkd := (Keeps.refl [] w4).drew
                  have hSw := HR0 _ hkd
                  have HRR := Lib.hid HR0
                  clear HR0
                  refine startU [((3 : Nat), fun w0 : World => w0.cell? ⟨t, 1, none⟩ = some (.int .i64 (l.length : Nat)))] (by kernel_rfl) ?_
                  generalize World.drew w4 = w6 at *
                  refine takeU (i := 0) (v := ?_) rfl (by kernel_rfl) (fun _ _ _ h => h) (Or.inl ⟨by rfl, fun w0 hw0 => ?_⟩) (fun p hp _ => hSw p hp) ?_
                  rotate_left
                  · simp [Reads] at hw0
                    go_simp
                    try with_reducible rfl
                  try go_simp
                  refine takeU (i := 1) (v := ?_) rfl (by kernel_rfl) (fun _ _ _ h => h) (Or.inl ⟨by rfl, fun w0 hw0 => ?_⟩) (fun p hp _ => hSw p hp) ?_
                  rotate_left
                  · simp [Reads] at hw0
                    go_simp
                    try with_reducible rfl
                  try go_simp
                  refine takeU (i := 2) (v := ?_) rfl (by kernel_rfl) (fun _ _ _ h => h) (Or.inl ⟨by rfl, fun w0 hw0 => ?_⟩) (fun p hp _ => hSw p hp) ?_
                  rotate_left
                  · simp [Reads] at hw0
                    go_simp
                    try with_reducible rfl
                  try go_simp
                  refine takeU (i := 3) (v := ?_) rfl (by kernel_rfl) (fun _ _ _ h => h) (Or.inl ⟨by rfl, fun w0 hw0 => ?_⟩) (fun p hp _ => hSw p hp) ?_
                  rotate_left
                  · simp [Reads] at hw0
                    go_simp
                    try with_reducible rfl
                  try go_simp
                  refine takeU (i := 4) (v := ?_) rfl (by kernel_rfl) (fun _ _ _ h => h) (Or.inl ⟨by rfl, fun w0 hw0 => ?_⟩) (fun p hp _ => hSw p hp) ?_
                  rotate_left
                  · simp [Reads] at hw0
                    go_simp
                    try with_reducible rfl
                  try go_simp
                  refine takeU (i := 5) (v := ?_) rfl (by kernel_rfl) (fun _ _ _ h => h) (Or.inl ⟨by rfl, fun w0 hw0 => ?_⟩) (fun p hp _ => hSw p hp) ?_
                  rotate_left
                  · simp [Reads] at hw0
                    go_simp
                    try with_reducible rfl
                  try go_simp
                  refine takeU (i := 8) (v := ?_) rfl (by kernel_rfl) (fun _ _ _ h => h) (Or.inl ⟨by rfl, fun w0 hw0 => ?_⟩) (fun p hp _ => hSw p hp) ?_
                  rotate_left
                  · simp [Reads] at hw0
                    go_simp
                    try with_reducible rfl
                  try go_simp
                  clear hSw
                  refine oneU (i := 6) rfl (by kernel_rfl) (fun K hK => ?_)
                  go_simp
                  refine hK _ _ (fun q hq _ _ => HRR.out _ (hkd.alloc _) q hq) ?_
                  clear hK K
                  try go_simp
                  have hSw := HRR.out _ (hkd.alloc (.cells #[.int .i64 (l.length : Nat), .iface 80 (.int .i64 20)] 100))
                  refine takeU (i := 7) (v := ?_) rfl (by kernel_rfl) (fun _ _ _ h => h) (Or.inl ⟨by rfl, fun w0 hw0 => ?_⟩) (fun p hp _ => hSw p hp) ?_
                  rotate_left
                  · simp [Reads] at hw0
                    go_simp
                    try with_reducible rfl
                  try go_simp
                  refine takeU (i := 9) (v := ?_) rfl (by kernel_rfl) (fun _ _ _ h => h) (Or.inl ⟨by rfl, fun w0 hw0 => ?_⟩) (fun p hp _ => hSw p hp) ?_
                  rotate_left
                  · simp [Reads] at hw0
                    go_simp
                    try with_reducible rfl
                  try go_simp
                  clear hSw
                  refine doneU (by kernel_rfl) ?_
                  go_wp2_with fail
                  go_ret2
                  exact ⟨(hk04.trans hkd).alloc _, .inr ⟨_, rfl, by simp, .inr (.inr (.inl ⟨_, _, rfl, Blk.fresh _ _ _⟩)), nd_ord HN.out hl HBE.out hil HRX.out HLN.out HCC.out⟩⟩
                · have HCC := Lib.hid (show cmpL (lastK l) x ≠ -1 by omega)
                  rw [hc]
                  clear hc
                  go_upto_region 15 with (fail)
                  have HR0 : (∀ W : World, Keeps [] w4 W → ∀ q ∈ [((3 : Nat), fun w0 : World => w0.cell? ⟨t, 1, none⟩ = some (.int .i64 (l.length : Nat)))], q.2 W) := fun W hW => rds1 (hW.cellSome ct (by simp))
                  have hkd := (Keeps.refl [] w4).drew
                  have hSw := HR0 _ hkd
                  have HRR := Lib.hid HR0
                  clear HR0
                  refine startU [((3 : Nat), fun w0 : World => w0.cell? ⟨t, 1, none⟩ = some (.int .i64 (l.length : Nat)))] (by kernel_rfl) ?_
                  generalize World.drew w4 = w6 at *
                  refine takeU (i := 0) (v := ?_) rfl (by kernel_rfl) (fun _ _ _ h => h) (Or.inl ⟨by rfl, fun w0 hw0 => ?_⟩) (fun p hp _ => hSw p hp) ?_
                  rotate_left
                  · simp [Reads] at hw0
                    go_simp
                    try with_reducible rfl
                  try go_simp
                  refine takeU (i := 1) (v := ?_) rfl (by kernel_rfl) (fun _ _ _ h => h) (Or.inl ⟨by rfl, fun w0 hw0 => ?_⟩) (fun p hp _ => hSw p hp) ?_
                  rotate_left
                  · simp [Reads] at hw0
                    go_simp
                    try with_reducible rfl
                  try go_simp
                  refine takeU (i := 2) (v := ?_) rfl (by kernel_rfl) (fun _ _ _ h => h) (Or.inl ⟨by rfl, fun w0 hw0 => ?_⟩) (fun p hp _ => hSw p hp) ?_
                  rotate_left
                  · simp [Reads] at hw0
                    go_simp
                    try with_reducible rfl
                  try go_simp
                  refine takeU (i := 3) (v := ?_) rfl (by kernel_rfl) (fun _ _ _ h => h) (Or.inl ⟨by rfl, fun w0 hw0 => ?_⟩) (fun p hp _ => hSw p hp) ?_
                  rotate_left
                  · simp [Reads] at hw0
                    go_simp
                    try with_reducible rfl
                  try go_simp
                  refine takeU (i := 4) (v := ?_) rfl (by kernel_rfl) (fun _ _ _ h => h) (Or.inl ⟨by rfl, fun w0 hw0 => ?_⟩) (fun p hp _ => hSw p hp) ?_
                  rotate_left
                  · simp [Reads] at hw0
                    go_simp
                    try with_reducible rfl
                  try go_simp
                  refine takeU (i := 5) (v := ?_) rfl (by kernel_rfl) (fun _ _ _ h => h) (Or.inl ⟨by rfl, fun w0 hw0 => ?_⟩) (fun p hp _ => hSw p hp) ?_
                  rotate_left
                  · simp [Reads] at hw0
                    go_simp
                    try with_reducible rfl
                  try go_simp
                  refine takeU (i := 8) (v := ?_) rfl (by kernel_rfl) (fun _ _ _ h => h) (Or.inl ⟨by rfl, fun w0 hw0 => ?_⟩) (fun p hp _ => hSw p hp) ?_
                  rotate_left
                  · simp [Reads] at hw0
                    go_simp
                    try with_reducible rfl
                  try go_simp
                  clear hSw
                  refine oneU (i := 6) rfl (by kernel_rfl) (fun K hK => ?_)
                  go_simp
                  refine hK _ _ (fun q hq _ _ => HRR.out _ (hkd.alloc _) q hq) ?_
                  clear hK K
                  try go_simp
                  have hSw := HRR.out _ (hkd.alloc (.cells #[.int .i64 (l.length : Nat), .iface 80 (.int .i64 20)] 100))
                  refine takeU (i := 7) (v := ?_) rfl (by kernel_rfl) (fun _ _ _ h => h) (Or.inl ⟨by rfl, fun w0 hw0 => ?_⟩) (fun p hp _ => hSw p hp) ?_
                  rotate_left
                  · simp [Reads] at hw0
                    go_simp
                    try with_reducible rfl
                  try go_simp
                  refine takeU (i := 9) (v := ?_) rfl (by kernel_rfl) (fun _ _ _ h => h) (Or.inl ⟨by rfl, fun w0 hw0 => ?_⟩) (fun p hp _ => hSw p hp) ?_
                  rotate_left
                  · simp [Reads] at hw0
                    go_simp
                    try with_reducible rfl
                  try go_simp
                  clear hSw
                  refine doneU (by kernel_rfl) ?_
                  go_wp2_with fail
                  go_ret2
                  exact ⟨(hk04.trans hkd).alloc _, .inr ⟨_, rfl, by simp, .inr (.inr (.inl ⟨_, _, rfl, Blk.fresh _ _ _⟩)), nd_ord HN.out hl HBE.out hil HRX.out HLN.out HCC.out⟩⟩
            · clear hT3
              go_upto_region 15 with (fail)
              have HR0 : (∀ W : World, Keeps [] w4 W → ∀ q ∈ [((3 : Nat), fun w0 : World => w0.cell? ⟨t, 1, none⟩ = some (.int .i64 (l.length : Nat)))], q.2 W) := fun W hW => rds1 (hW.cellSome ct (by simp))
              have hkd := (Keeps.refl [] w4).drew
              have hSw := HR0 _ hkd
              have HRR := Lib.hid HR0
              clear HR0
              refine startU [((3 : Nat), fun w0 : World => w0.cell? ⟨t, 1, none⟩ = some (.int .i64 (l.length : Nat)))] (by kernel_rfl) ?_
              generalize World.drew w4 = w6 at *
              refine takeU (i := 0) (v := ?_) rfl (by kernel_rfl) (fun _ _ _ h => h) (Or.inl ⟨by rfl, fun w0 hw0 => ?_⟩) (fun p hp _ => hSw p hp) ?_
              rotate_left
              · simp [Reads] at hw0
                go_simp
                try with_reducible rfl
              try go_simp
              refine takeU (i := 1) (v := ?_) rfl (by kernel_rfl) (fun _ _ _ h => h) (Or.inl ⟨by rfl, fun w0 hw0 => ?_⟩) (fun p hp _ => hSw p hp) ?_
              rotate_left
              · simp [Reads] at hw0
                go_simp
                try with_reducible rfl
              try go_simp
              refine takeU (i := 2) (v := ?_) rfl (by kernel_rfl) (fun _ _ _ h => h) (Or.inl ⟨by rfl, fun w0 hw0 => ?_⟩) (fun p hp _ => hSw p hp) ?_
              rotate_left
              · simp [Reads] at hw0
                go_simp
                try with_reducible rfl
              try go_simp
              refine takeU (i := 3) (v := ?_) rfl (by kernel_rfl) (fun _ _ _ h => h) (Or.inl ⟨by rfl, fun w0 hw0 => ?_⟩) (fun p hp _ => hSw p hp) ?_
              rotate_left
              · simp [Reads] at hw0
                go_simp
                try with_reducible rfl
              try go_simp
              refine takeU (i := 4) (v := ?_) rfl (by kernel_rfl) (fun _ _ _ h => h) (Or.inl ⟨by rfl, fun w0 hw0 => ?_⟩) (fun p hp _ => hSw p hp) ?_
              rotate_left
              · simp [Reads] at hw0
                go_simp
                try with_reducible rfl
              try go_simp
              refine takeU (i := 5) (v := ?_) rfl (by kernel_rfl) (fun _ _ _ h => h) (Or.inl ⟨by rfl, fun w0 hw0 => ?_⟩) (fun p hp _ => hSw p hp) ?_
              rotate_left
              · simp [Reads] at hw0
                go_simp
                try with_reducible rfl
              try go_simp
              refine takeU (i := 8) (v := ?_) rfl (by kernel_rfl) (fun _ _ _ h => h) (Or.inl ⟨by rfl, fun w0 hw0 => ?_⟩) (fun p hp _ => hSw p hp) ?_
              rotate_left
              · simp [Reads] at hw0
                go_simp
                try with_reducible rfl
              try go_simp
              clear hSw
              refine oneU (i := 6) rfl (by kernel_rfl) (fun K hK => ?_)
              go_simp
              refine hK _ _ (fun q hq _ _ => HRR.out _ (hkd.alloc _) q hq) ?_
              clear hK K
              try go_simp
              have hSw := HRR.out _ (hkd.alloc (.cells #[.int .i64 (l.length : Nat), .iface 80 (.int .i64 20)] 100))
              refine takeU (i := 7) (v := ?_) rfl (by kernel_rfl) (fun _ _ _ h => h) (Or.inl ⟨by rfl, fun w0 hw0 => ?_⟩) (fun p hp _ => hSw p hp) ?_
              rotate_left
              · simp [Reads] at hw0
                go_simp
                try with_reducible rfl
              try go_simp
              refine takeU (i := 9) (v := ?_) rfl (by kernel_rfl) (fun _ _ _ h => h) (Or.inl ⟨by rfl, fun w0 hw0 => ?_⟩) (fun p hp _ => hSw p hp) ?_
              rotate_left
              · simp [Reads] at hw0
                go_simp
                try with_reducible rfl
              try go_simp
              clear hSw
              refine doneU (by kernel_rfl) ?_
              go_wp2_with fail
              go_ret2
              exact ⟨(hk04.trans hkd).alloc _, .inr ⟨_, rfl, by simp, .inr (.inr (.inl ⟨_, _, rfl, Blk.fresh _ _ _⟩)), nd_val HN.out hl HBE.out hil HRX.out hno.out⟩⟩
          · have ct := hT3.blk1
            have htl := hT3.lt
            have bP := built_PW (l.length : Nat) g
            go_upto_region 12 with (fail)
            have HR0 : (∀ W : World, Keeps [] w3 W → ∀ q ∈ [((3 : Nat), fun w0 : World => w0.cell? ⟨t, 1, none⟩ = some (.int .i64 (l.length : Nat)))], q.2 W) := fun W hW => rds1 (hW.cellSome ct (by simp))
            have hkd := (Keeps.refl [] w3).drew
            have hSw := HR0 _ hkd
            have HRR := Lib.hid HR0
            clear HR0
            refine startU [((3 : Nat), fun w0 : World => w0.cell? ⟨t, 1, none⟩ = some (.int .i64 (l.length : Nat)))] (by kernel_rfl) ?_
            generalize World.drew w3 = w6 at *
            refine takeU (i := 0) (v := ?_) rfl (by kernel_rfl) (fun _ _ _ h => h) (Or.inl ⟨by rfl, fun w0 hw0 => ?_⟩) (fun p hp _ => hSw p hp) ?_
            rotate_left
            · simp [Reads] at hw0
              go_simp
              try with_reducible rfl
            try go_simp
            refine takeU (i := 1) (v := ?_) rfl (by kernel_rfl) (fun _ _ _ h => h) (Or.inl ⟨by rfl, fun w0 hw0 => ?_⟩) (fun p hp _ => hSw p hp) ?_
            rotate_left
            · simp [Reads] at hw0
              go_simp
              try with_reducible rfl
            try go_simp
            refine takeU (i := 2) (v := ?_) rfl (by kernel_rfl) (fun _ _ _ h => h) (Or.inl ⟨by rfl, fun w0 hw0 => ?_⟩) (fun p hp _ => hSw p hp) ?_
            rotate_left
            · simp [Reads] at hw0
              go_simp
              try with_reducible rfl
            try go_simp
            refine takeU (i := 3) (v := ?_) rfl (by kernel_rfl) (fun _ _ _ h => h) (Or.inl ⟨by rfl, fun w0 hw0 => ?_⟩) (fun p hp _ => hSw p hp) ?_
            rotate_left
            · simp [Reads] at hw0
              go_simp
              try with_reducible rfl
            try go_simp
            refine takeU (i := 4) (v := ?_) rfl (by kernel_rfl) (fun _ _ _ h => h) (Or.inl ⟨by rfl, fun w0 hw0 => ?_⟩) (fun p hp _ => hSw p hp) ?_
            rotate_left
            · simp [Reads] at hw0
              go_simp
              try with_reducible rfl
            try go_simp
            refine takeU (i := 5) (v := ?_) rfl (by kernel_rfl) (fun _ _ _ h => h) (Or.inl ⟨by rfl, fun w0 hw0 => ?_⟩) (fun p hp _ => hSw p hp) ?_
            rotate_left
            · simp [Reads] at hw0
              go_simp
              try with_reducible rfl
            try go_simp
            refine takeU (i := 8) (v := ?_) rfl (by kernel_rfl) (fun _ _ _ h => h) (Or.inl ⟨by rfl, fun w0 hw0 => ?_⟩) (fun p hp _ => hSw p hp) ?_
            rotate_left
            · simp [Reads] at hw0
              go_simp
              try with_reducible rfl
            try go_simp
            clear hSw
            refine oneU (i := 6) rfl (by kernel_rfl) (fun K hK => ?_)
            go_simp
            refine hK _ _ (fun q hq _ _ => HRR.out _ (hkd.alloc _) q hq) ?_
            clear hK K
            try go_simp
            have hSw := HRR.out _ (hkd.alloc (.cells #[.int .i64 (l.length : Nat), .iface 74 (.pointer (some ⟨g, 0, none⟩))] 100))
            refine takeU (i := 7) (v := ?_) rfl (by kernel_rfl) (fun _ _ _ h => h) (Or.inl ⟨by rfl, fun w0 hw0 => ?_⟩) (fun p hp _ => hSw p hp) ?_
            rotate_left
            · simp [Reads] at hw0
              go_simp
              try with_reducible rfl
            try go_simp
            refine takeU (i := 9) (v := ?_) rfl (by kernel_rfl) (fun _ _ _ h => h) (Or.inl ⟨by rfl, fun w0 hw0 => ?_⟩) (fun p hp _ => hSw p hp) ?_
            rotate_left
            · simp [Reads] at hw0
              go_simp
              try with_reducible rfl
            try go_simp
            clear hSw
            refine doneU (by kernel_rfl) ?_
            go_wp2_with fail
            go_ret2
            exact ⟨(hk03.trans hkd).alloc _, .inr ⟨_, rfl, by simp, .inr (.inl ⟨_, _, g, rfl, Blk.fresh _ _ _, (hgw.keep0 hkd).keep0 ((Keeps.refl [] _).alloc _)⟩), nd_key HN.out hl HBE.out hil hno.out⟩⟩
  · obtain ⟨g, p, rfl, hB⟩ : ∃ g p, ev = .iface 74 (.pointer (some ⟨g, 0, none⟩)) ∧ Blk w1 g 78 #[.string p, .iface 80 (.int .i64 er)] := by
      rcases hE with ⟨rfl, hx⟩ | hE
      · omega
      · exact hE
    go_wp2_with fail
    go_ret2
    exact ⟨hk1.alloc _, .inr ⟨_, rfl, by simp, .inl ⟨_, rfl, _, _, Blk.fresh _ _ _⟩, nd_count hl HR.out h0⟩⟩
end Go.Proofs.YtknnhnpcgefchaaDoor
/- Load of a dump. -/

namespace Go.Proofs.YtknnhnpcgefchaaDoor
open Go.RowKit Go.Lib

theorem dump_len2 {n c : Nat} {l1 : List KV} (h : ∀ p ∈ l1, (enc p).length ≤ c) (hn : n < 18446744073709551616) : (outB n l1).length ≤ 10 + l1.length * c := by
  have h1 := uvarint_length64 hn
  have h2 : ((l1.map enc).flatten).length ≤ l1.length * c := by
    induction l1 with
    | nil => simp
    | cons p l ih =>
      have := ih fun q hq => h q (List.mem_cons_of_mem _ hq)
      have := h p List.mem_cons_self
      simp only [List.map_cons, List.flatten_cons, List.length_append, List.length_cons]
      rw [Nat.succ_mul]
      omega
  unfold outB
  rw [List.length_append]
  omega
theorem enc_small {p : KV} (h : p.1.length ≤ 100 ∧ p.2.length ≤ 100) : (enc p).length ≤ 220 := by
  have h1 := uvarint_length64 (x := p.1.length) (by omega)
  have h2 := uvarint_length64 (x := p.2.length) (by omega)
  simp only [enc, tx, textB, List.length_append]
  omega
theorem dump_small {l : List KV} (h : ∀ p ∈ l, p.1.length ≤ 100 ∧ p.2.length ≤ 100) (hl : l.length ≤ 250) : (dumpB uvarint l).length ≤ 100000 := by
  have h1 := dump_len2 (n := l.length) (l1 := l) (c := 220) (fun p hp => enc_small (h p hp)) (by omega)
  rw [outB_dump] at h1
  omega
theorem dump_eqlen {l m : List KV} (hl : (dumpB uvarint l).length ≤ 1000000) (h : dumpB uvarint m = dumpB uvarint l) : m.length = l.length := by
  have hm : (dumpB uvarint m).length ≤ 1000000 := by rw [h]; exact hl
  have f := fun (L : List KV) (hL : (dumpB uvarint L).length ≤ 1000000) => show L.length < 18446744073709551616 by
    have h1 := flat_len L
    rw [← outB_dump] at hL
    simp only [outB, List.length_append] at hL
    omega
  have e1 : rdU 0 0 (dumpB uvarint l) = _ := rdU_put l.length ((l.map enc).flatten) (f l hl)
  have e2 : rdU 0 0 (dumpB uvarint m) = _ := rdU_put m.length ((m.map enc).flatten) (f m hm)
  rw [h, e1] at e2
  simp only [Prod.mk.injEq] at e2
  exact e2.1.symm
set_option maxRecDepth 100000 in
set_option maxHeartbeats 8000000 in
theorem loadOk {ao : Option Addr} {c : Nat} {l : List KV} {w : World} (hs : Srt l) (hl : (dumpB uvarint l).length ≤ 1000000) (h : Rb w ao c (dumpB uvarint l)) :
    Calls Tryd.prog 19 #[.slice ao (dumpB uvarint l).length c] w fun e w' => ∃ t l2 F, e = .returned (.tuple #[.pointer (some ⟨t, 0, none⟩), .nilIface]) ∧ TreeAt w' F t l2 ∧ dumpB uvarint l2 = dumpB uvarint l ∧ l2.length = l.length ∧ Keeps [] w w' := by
  have HL := load_any ao c (dumpB uvarint l) w h hl
  have HLL := Lib.hid hl
  have HS := Lib.hid hs
  clear hs
  generalize hb : dumpB uvarint l = b at *
  have HB := Lib.hid hb
  clear hb
  go_enter Tryd.func19, Tryd.ntmps19
  go_wp2_with fail
  refine HL.mono ?_
  rintro e w1 ⟨hk1, hres⟩
  clear HL
  rcases hres with ⟨t, l2, F, rfl, hT, hd⟩ | ⟨ev, rfl, hne, hE, hnd⟩
  · have HD := Lib.hid hd
    clear hd
    go_wp2_with fail
    go_ret2
    exact ⟨t, l2, F, rfl, hT, HD.out.symm, dump_eqlen (by rw [HB.out]; exact HLL.out) (by rw [HB.out, ← HD.out]), hk1⟩
  · exact absurd HB.out.symm (hnd l HS.out)
end Go.Proofs.YtknnhnpcgefchaaDoor
