/- Values, entries, bytes that come in. -/
import Derived.Test.YtfgmbjdeimallaaGreatDoorWinZ
import Derived.Test.YtfgmbjdeimallaaGreatDoorWe
namespace Go.Proofs.YtfgmbjdeimallaaGreatDoor
open Go.RowKit

theorem in_one_int : Tryz.prog.cellsOf 3 = 1 := by kernel_rfl
theorem in_one_i64 : Tryz.prog.cellsOf 2 = 1 := by kernel_rfl
theorem in_one_u64 : Tryz.prog.cellsOf 23 = 1 := by kernel_rfl
theorem in_one_u8 : Tryz.prog.cellsOf 5 = 1 := by kernel_rfl
theorem in_one_string : Tryz.prog.cellsOf 9 = 1 := by kernel_rfl
theorem in_ent5 : Tryz.prog.cellsOf 65 = 5 := by kernel_rfl

theorem in_cons {n : Nat} {l : List Value} (h : l.length = n + 1) : ∃ c r, l = c :: r ∧ r.length = n := by
  cases l with
  | nil => simp at h
  | cons c r => exact ⟨c, r, rfl, by simpa using h⟩

theorem flat_bys (l : List UInt8) : (l.map fun b => [Value.int .u8 (b.toNat : Nat)]).flatten = bys l := by
  induction l with
  | nil => rfl
  | cons x l ih =>
    rw [List.map_cons, List.flatten_cons, ih]
    rfl

section
variable {H : Type} {enc : TypeId × Value → H} {w : World}
theorem ent_in {cs : List Value} (h : Rd enc w 65 cs) : ∃ x : Ent, cs = x.cells.toList ∧ x.term < 18446744073709551616 ∧ x.client < 18446744073709551616 ∧ x.seq < 18446744073709551616 := by
  obtain ⟨hl, hs⟩ := h.struct Tryz.underlying65
  rw [in_ent5] at hl
  obtain ⟨c0, l0, rfl, e0⟩ := in_cons hl
  obtain ⟨c1, l1, rfl, e1⟩ := in_cons e0
  obtain ⟨c2, l2, rfl, e2⟩ := in_cons e1
  obtain ⟨c3, l3, rfl, e3⟩ := in_cons e2
  obtain ⟨c4, l4, rfl, e4⟩ := in_cons e3
  obtain rfl := List.eq_nil_of_length_eq_zero e4
  have k0 : Rd enc w 23 [c0] := by have := hs 0 _ rfl; simpa [in_one_u64] using this
  have k1 : Rd enc w 3 [c1] := by have := hs 1 _ rfl; simpa [in_one_int] using this
  have k2 : Rd enc w 23 [c2] := by have := hs 2 _ rfl; simpa [in_one_u64] using this
  have k3 : Rd enc w 23 [c3] := by have := hs 3 _ rfl; simpa [in_one_u64] using this
  have k4 : Rd enc w 9 [c4] := by have := hs 4 _ rfl; simpa [in_one_string] using this
  obtain ⟨x0, ex0, h0⟩ := k0.int Tryz.underlying23
  obtain ⟨x1, ex1, h1⟩ := k1.int Tryz.underlying3
  obtain ⟨x2, ex2, h2⟩ := k2.int Tryz.underlying23
  obtain ⟨x3, ex3, h3⟩ := k3.int Tryz.underlying23
  obtain ⟨t, et, _⟩ := k4.string Tryz.underlying9
  simp only [List.cons.injEq, and_true] at ex0 ex1 ex2 ex3 et
  subst ex0 ex1 ex2 ex3 et
  have b0 := bounds_u64 h0
  have b2 := bounds_u64 h2
  have b3 := bounds_u64 h3
  obtain ⟨n0, rfl⟩ := Int.eq_ofNat_of_zero_le b0.1
  obtain ⟨n2, rfl⟩ := Int.eq_ofNat_of_zero_le b2.1
  obtain ⟨n3, rfl⟩ := Int.eq_ofNat_of_zero_le b3.1
  exact ⟨⟨n0, x1, n2, n3, t⟩, rfl, by simp only []; omega, by simp only []; omega, by simp only []; omega⟩

theorem rb_in {a : Option Addr} {len cap : Nat} (h : Rd enc w 26 [.slice a len cap]) : ∃ l : List UInt8, l.length = len ∧ Rb w a cap l := by
  obtain ⟨l, hl, _, hS⟩ := sl_in h Tryz.underlying26 in_one_u8 (by omega) (0 : UInt8) (fun b => [Value.int .u8 (b.toNat : Nat)]) (fun _ => True) (fun _ => rfl)
    (by intro v u hu; simp at hu; subst hu; rfl) (fun cs hc => by
      obtain ⟨m, rfl, hm⟩ := hc.int Tryz.underlying5
      have hb := bounds_u8 hm
      have e : ((UInt8.ofNat m.toNat).toNat : Int) = m := by rw [UInt8.toNat_ofNat']; omega
      exact ⟨UInt8.ofNat m.toNat, by rw [e], trivial⟩)
  subst hl
  rw [flat_bys] at hS
  exact ⟨l, rfl, hS⟩
end
end Go.Proofs.YtfgmbjdeimallaaGreatDoor
