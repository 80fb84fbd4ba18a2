/- DiskPlays: the steps that come in. -/
import Derived.Test.YtcebbgmjbincbaaDoorDp1

namespace Go.Proofs.YtcebbgmjbincbaaDoor
open Go.RowKit Go.Lib
theorem in_one_str : Tryd.prog.cellsOf 9 = 1 := by kernel_rfl
theorem in_ps6 : Tryd.prog.cellsOf 48 = 6 := by kernel_rfl
section
variable {H : Type} {enc : TypeId × Value → H} {w : World}
theorem ps_in {cs : List Value} (h : Rd enc w 48 cs) : ∃ x : Ps, cs = x.cells ∧ x.okw w := by
  obtain ⟨hl, hs⟩ := h.struct Tryd.underlying48
  rw [in_ps6] at hl
  obtain ⟨c0, l0, rfl, e0⟩ := in_cons hl
  obtain ⟨c1, l1, rfl, e1⟩ := in_cons e0
  obtain ⟨c2, l2, rfl, e2⟩ := in_cons e1
  obtain ⟨c3, l3, rfl, e3⟩ := in_cons e2
  obtain ⟨c4, l4, rfl, e4⟩ := in_cons e3
  obtain ⟨c5, l5, rfl, e5⟩ := in_cons e4
  obtain rfl := List.eq_nil_of_length_eq_zero e5
  have k0 : Rd enc w 3 [c0] := by have := hs 0 _ rfl; simpa [in_one_int] using this
  have k1 : Rd enc w 3 [c1] := by have := hs 1 _ rfl; simpa [in_one_int] using this
  have k2 : Rd enc w 9 [c2] := by have := hs 2 _ rfl; simpa [in_one_int, in_one_str] using this
  have k3 : Rd enc w 9 [c3] := by have := hs 3 _ rfl; simpa [in_one_int, in_one_str] using this
  have k4 : Rd enc w 22 [c4] := by have := hs 4 _ rfl; simpa [in_one_int, in_one_str, in_one_bs] using this
  have k5 : Rd enc w 36 [c5] := by have := hs 5 _ rfl; simpa [in_one_int, in_one_str, in_one_bs, in_cr1] using this
  obtain ⟨-, hs3⟩ := k5.struct Tryd.underlying36
  have m3 : Rd enc w 34 [c5] := by have := hs3 0 _ rfl; simpa [in_one_is] using this
  obtain ⟨x0, ex0, h0⟩ := k0.int Tryd.underlying3
  obtain ⟨x1, ex1, h1⟩ := k1.int Tryd.underlying3
  obtain ⟨s2, ex2, h2⟩ := k2.string Tryd.underlying9
  obtain ⟨s3, ex3, h3⟩ := k3.string Tryd.underlying9
  obtain ⟨da, dl, dc, ed, _⟩ := k4.slice Tryd.underlying22 in_one_u8 (by omega)
  obtain ⟨ka, kl, kc, ek, _⟩ := m3.slice Tryd.underlying34 in_one_int (by omega)
  simp only [List.cons.injEq, and_true] at ex0 ex1 ex2 ex3 ed ek
  subst ex0 ex1 ex2 ex3 ed ek
  obtain ⟨l, rfl, hR⟩ := rb_in k4
  obtain ⟨keep, rfl, hK⟩ := ints_in m3
  have b1 := bounds_i64 h1
  refine ⟨⟨x0, x1, s2.data.toList, s3.data.toList, l, da, dc, keep, ka, kc⟩, ?_, ⟨b1.2, hR, hK⟩⟩
  simp [Ps.cells]
theorem psteps_in {a : Option Addr} {len cap : Nat} (h : Rd enc w 44 [.slice a len cap]) : ∃ l : List Ps, l.length = len ∧ PsIn w a l := by
  obtain ⟨l, hl, hq, hS⟩ := sl_in h Tryd.underlying44 in_ps6 (by omega) (⟨0, 0, [], [], [], none, 0, [], none, 0⟩ : Ps) (fun v => v.cells) (fun v => v.okw w) (fun _ => rfl)
    (by intro v u hu; simp [Ps.cells] at hu; rcases hu with rfl | rfl | rfl | rfl | rfl | rfl <;> rfl) (fun cs hc => ps_in hc)
  refine ⟨l, hl, fun k s hk => ⟨hq s (List.mem_of_getElem? hk), ?_⟩⟩
  have hkl := (List.getElem?_eq_some_iff.1 hk).1
  have hc := hS.cap
  obtain ⟨b, o, rfl⟩ := hS.at (by omega)
  refine ⟨b, o, rfl, fun j v hj => ?_⟩
  have hj6 : j < 6 := by have := (List.getElem?_eq_some_iff.1 hj).1; simpa [Ps.cells] using this
  have := hS.cell _ rfl (k * 6 + j) v ((flat_at (fun v : Ps => v.cells) 6 (fun _ => rfl) l k j s hk hj6).trans hj)
  simpa [Nat.add_assoc] using this
end
end Go.Proofs.YtcebbgmjbincbaaDoor
