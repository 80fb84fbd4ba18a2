/- Steps as data: what can be read as []Step is a slice of steps. -/
import Derived.Test.YtpkjcdmeabjifaaDoorRead
import Derived.Test.YtpkjcdmeabjifaaDoorStepsIn

namespace Go.Proofs.YtpkjcdmeabjifaaDoor
open Go.RowKit Go.ChangeShapes Go.WideShapes Go.Deep

theorem cons_of {l : List Value} {n : Nat} (h : l.length = n + 1) : ∃ a t, l = a :: t ∧ t.length = n := by
  cases l with
  | nil => simp at h
  | cons a t => exact ⟨a, t, rfl, by simpa using h⟩

section
variable {H : Type} {enc : TypeId × Value → H} {w : World}

theorem one_int : Tryd.prog.cellsOf 3 = 1 := by kernel_rfl
theorem one_i64 : Tryd.prog.cellsOf 2 = 1 := by kernel_rfl
theorem one_u64 : Tryd.prog.cellsOf 29 = 1 := by kernel_rfl
theorem one_bool : Tryd.prog.cellsOf 4 = 1 := by kernel_rfl
theorem one_string : Tryd.prog.cellsOf 9 = 1 := by kernel_rfl
theorem one_class : Tryd.prog.cellsOf 32 = 1 := by kernel_rfl
theorem one_texts : Tryd.prog.cellsOf 33 = 1 := by kernel_rfl
theorem one_rows : Tryd.prog.cellsOf 34 = 1 := by kernel_rfl
theorem one_vals : Tryd.prog.cellsOf 82 = 1 := by kernel_rfl
theorem one_bytes : Tryd.prog.cellsOf 31 = 1 := by kernel_rfl
theorem one_ents : Tryd.prog.cellsOf 30 = 1 := by kernel_rfl
theorem ent_pos : 0 < Tryd.prog.cellsOf 131 := of_decide_eq_true (by kernel_rfl)
theorem val3 : Tryd.prog.cellsOf 98 = 3 := by kernel_rfl
theorem msg23 : Tryd.prog.cellsOf 40 = 23 := by kernel_rfl
theorem rep6 : Tryd.prog.cellsOf 38 = 6 := by kernel_rfl
theorem ans3 : Tryd.prog.cellsOf 36 = 3 := by kernel_rfl
theorem step26 : Tryd.prog.cellsOf 59 = 26 := by kernel_rfl

theorem ValsIn.of {a : Option Addr} {l c : Nat} (h : Rd enc w 82 [.slice a l c]) : ValsIn w a l := by
  obtain ⟨a', l', c', e, h1, h2, hi⟩ := h.slice Tryd.underlying82 val3 (by omega)
  simp at e
  obtain ⟨rfl, rfl, rfl⟩ := e
  refine ⟨by unfold maxLen at h2; omega, fun i hil => ?_⟩
  obtain ⟨b, o, ha, cs', hl, hc, hr⟩ := hi i hil
  obtain ⟨c0, l0, rfl, e0⟩ := cons_of hl
  obtain ⟨c1, l1, rfl, e1⟩ := cons_of e0
  obtain ⟨c2, l2, rfl, e2⟩ := cons_of e1
  obtain rfl := List.eq_nil_of_length_eq_zero e2
  have hs := (hr.struct Tryd.underlying98).2
  have k0 : Rd enc w 3 [c0] := by have := hs 0 _ rfl; simpa [one_int] using this
  have k1 : Rd enc w 2 [c1] := by have := hs 1 _ rfl; simpa [one_i64] using this
  have k2 : Rd enc w 9 [c2] := by have := hs 2 _ rfl; simpa [one_string] using this
  obtain ⟨x, ex, _⟩ := k0.int Tryd.underlying3
  obtain ⟨y, ey, _⟩ := k1.int Tryd.underlying2
  obtain ⟨t, et, _⟩ := k2.string Tryd.underlying9
  simp only [List.cons.injEq, and_true] at ex ey et
  subst ex ey et
  exact ⟨b, o, x, y, t, ha, by simpa using hc 0 _ rfl, by simpa [Nat.add_assoc] using hc 1 _ rfl, by simpa [Nat.add_assoc] using hc 2 _ rfl⟩

theorem TextsIn.of {a : Option Addr} {l c : Nat} (h : Rd enc w 33 [.slice a l c]) : TextsIn w (a, l, c) := by
  obtain ⟨a', l', c', e, h1, h2, hi⟩ := h.slice Tryd.underlying33 one_string (by omega)
  simp at e
  obtain ⟨rfl, rfl, rfl⟩ := e
  refine ⟨by unfold maxLen at h2; simp; omega, fun i hil => ?_⟩
  obtain ⟨b, o, ha, cs', hl, hc, hr⟩ := hi i hil
  obtain ⟨t, rfl, _⟩ := hr.string Tryd.underlying9
  exact ⟨b, o, t, ha, by simpa using hc 0 _ rfl⟩

theorem RowsIn.of {a : Option Addr} {l c : Nat} (h : Rd enc w 34 [.slice a l c]) : RowsIn w (a, l, c) := by
  obtain ⟨a', l', c', e, h1, h2, hi⟩ := h.slice Tryd.underlying34 one_vals (by omega)
  simp at e
  obtain ⟨rfl, rfl, rfl⟩ := e
  refine ⟨by unfold maxLen at h2; simp; omega, fun i hil => ?_⟩
  obtain ⟨b, o, ha, cs', hl, hc, hr⟩ := hi i hil
  obtain ⟨va, vl, vc, rfl, _⟩ := hr.slice Tryd.underlying82 val3 (by omega)
  exact ⟨b, o, va, vl, vc, ha, by simpa using hc 0 _ rfl, ValsIn.of hr⟩

set_option maxRecDepth 100000 in
set_option maxHeartbeats 4000000 in
theorem StepsIn.of {a : Option Addr} {l c : Nat} (h : Rd enc w 53 [.slice a l c]) : l ≤ 9223372036854775807 ∧ StepsIn w a l := by
  obtain ⟨a', l', c', e, h1, h2, hi⟩ := h.slice Tryd.underlying53 step26 (by omega)
  simp at e
  obtain ⟨rfl, rfl, rfl⟩ := e
  refine ⟨by unfold maxLen at h2; omega, fun i hil => ?_⟩
  obtain ⟨b, o, ha, cs', hl, hc, hr⟩ := hi i hil
  obtain ⟨c0, l0, rfl, e0⟩ := cons_of hl
  obtain ⟨c1, l1, rfl, e1⟩ := cons_of e0
  obtain ⟨c2, l2, rfl, e2⟩ := cons_of e1
  obtain ⟨c3, l3, rfl, e3⟩ := cons_of e2
  obtain ⟨c4, l4, rfl, e4⟩ := cons_of e3
  obtain ⟨c5, l5, rfl, e5⟩ := cons_of e4
  obtain ⟨c6, l6, rfl, e6⟩ := cons_of e5
  obtain ⟨c7, l7, rfl, e7⟩ := cons_of e6
  obtain ⟨c8, l8, rfl, e8⟩ := cons_of e7
  obtain ⟨c9, l9, rfl, e9⟩ := cons_of e8
  obtain ⟨c10, l10, rfl, e10⟩ := cons_of e9
  obtain ⟨c11, l11, rfl, e11⟩ := cons_of e10
  obtain ⟨c12, l12, rfl, e12⟩ := cons_of e11
  obtain ⟨c13, l13, rfl, e13⟩ := cons_of e12
  obtain ⟨c14, l14, rfl, e14⟩ := cons_of e13
  obtain ⟨c15, l15, rfl, e15⟩ := cons_of e14
  obtain ⟨c16, l16, rfl, e16⟩ := cons_of e15
  obtain ⟨c17, l17, rfl, e17⟩ := cons_of e16
  obtain ⟨c18, l18, rfl, e18⟩ := cons_of e17
  obtain ⟨c19, l19, rfl, e19⟩ := cons_of e18
  obtain ⟨c20, l20, rfl, e20⟩ := cons_of e19
  obtain ⟨c21, l21, rfl, e21⟩ := cons_of e20
  obtain ⟨c22, l22, rfl, e22⟩ := cons_of e21
  obtain ⟨c23, l23, rfl, e23⟩ := cons_of e22
  obtain ⟨c24, l24, rfl, e24⟩ := cons_of e23
  obtain ⟨c25, l25, rfl, e25⟩ := cons_of e24
  obtain rfl := List.eq_nil_of_length_eq_zero e25
  have hs := (hr.struct Tryd.underlying59).2
  have s0 : Rd enc w 3 [c0] := by have := hs 0 _ rfl; simpa [one_int, one_i64, one_u64, one_bool, one_string, one_class, one_texts, one_rows, one_bytes, one_ents, msg23, rep6, ans3] using this
  have s1 : Rd enc w 9 [c1] := by have := hs 1 _ rfl; simpa [one_int, one_i64, one_u64, one_bool, one_string, one_class, one_texts, one_rows, one_bytes, one_ents, msg23, rep6, ans3] using this
  have s2 : Rd enc w 40 [c2, c3, c4, c5, c6, c7, c8, c9, c10, c11, c12, c13, c14, c15, c16, c17, c18, c19, c20, c21, c22, c23, c24] := by have := hs 2 _ rfl; simpa [one_int, one_i64, one_u64, one_bool, one_string, one_class, one_texts, one_rows, one_bytes, one_ents, msg23, rep6, ans3] using this
  have s3 : Rd enc w 4 [c25] := by have := hs 3 _ rfl; simpa [one_int, one_i64, one_u64, one_bool, one_string, one_class, one_texts, one_rows, one_bytes, one_ents, msg23, rep6, ans3] using this
  have ms := (s2.struct Tryd.underlying40).2
  have m0 : Rd enc w 3 [c2] := by have := ms 0 _ rfl; simpa [one_int, one_i64, one_u64, one_bool, one_string, one_class, one_texts, one_rows, one_bytes, one_ents, msg23, rep6, ans3] using this
  have m1 : Rd enc w 3 [c3] := by have := ms 1 _ rfl; simpa [one_int, one_i64, one_u64, one_bool, one_string, one_class, one_texts, one_rows, one_bytes, one_ents, msg23, rep6, ans3] using this
  have m2 : Rd enc w 3 [c4] := by have := ms 2 _ rfl; simpa [one_int, one_i64, one_u64, one_bool, one_string, one_class, one_texts, one_rows, one_bytes, one_ents, msg23, rep6, ans3] using this
  have m3 : Rd enc w 29 [c5] := by have := ms 3 _ rfl; simpa [one_int, one_i64, one_u64, one_bool, one_string, one_class, one_texts, one_rows, one_bytes, one_ents, msg23, rep6, ans3] using this
  have m4 : Rd enc w 29 [c6] := by have := ms 4 _ rfl; simpa [one_int, one_i64, one_u64, one_bool, one_string, one_class, one_texts, one_rows, one_bytes, one_ents, msg23, rep6, ans3] using this
  have m5 : Rd enc w 29 [c7] := by have := ms 5 _ rfl; simpa [one_int, one_i64, one_u64, one_bool, one_string, one_class, one_texts, one_rows, one_bytes, one_ents, msg23, rep6, ans3] using this
  have m6 : Rd enc w 30 [c8] := by have := ms 6 _ rfl; simpa [one_int, one_i64, one_u64, one_bool, one_string, one_class, one_texts, one_rows, one_bytes, one_ents, msg23, rep6, ans3] using this
  have m7 : Rd enc w 29 [c9] := by have := ms 7 _ rfl; simpa [one_int, one_i64, one_u64, one_bool, one_string, one_class, one_texts, one_rows, one_bytes, one_ents, msg23, rep6, ans3] using this
  have m8 : Rd enc w 29 [c10] := by have := ms 8 _ rfl; simpa [one_int, one_i64, one_u64, one_bool, one_string, one_class, one_texts, one_rows, one_bytes, one_ents, msg23, rep6, ans3] using this
  have m9 : Rd enc w 4 [c11] := by have := ms 9 _ rfl; simpa [one_int, one_i64, one_u64, one_bool, one_string, one_class, one_texts, one_rows, one_bytes, one_ents, msg23, rep6, ans3] using this
  have m10 : Rd enc w 3 [c12] := by have := ms 10 _ rfl; simpa [one_int, one_i64, one_u64, one_bool, one_string, one_class, one_texts, one_rows, one_bytes, one_ents, msg23, rep6, ans3] using this
  have m11 : Rd enc w 31 [c13] := by have := ms 11 _ rfl; simpa [one_int, one_i64, one_u64, one_bool, one_string, one_class, one_texts, one_rows, one_bytes, one_ents, msg23, rep6, ans3] using this
  have m12 : Rd enc w 4 [c14] := by have := ms 12 _ rfl; simpa [one_int, one_i64, one_u64, one_bool, one_string, one_class, one_texts, one_rows, one_bytes, one_ents, msg23, rep6, ans3] using this
  have m13 : Rd enc w 29 [c15] := by have := ms 13 _ rfl; simpa [one_int, one_i64, one_u64, one_bool, one_string, one_class, one_texts, one_rows, one_bytes, one_ents, msg23, rep6, ans3] using this
  have m14 : Rd enc w 29 [c16] := by have := ms 14 _ rfl; simpa [one_int, one_i64, one_u64, one_bool, one_string, one_class, one_texts, one_rows, one_bytes, one_ents, msg23, rep6, ans3] using this
  have m15 : Rd enc w 9 [c17] := by have := ms 15 _ rfl; simpa [one_int, one_i64, one_u64, one_bool, one_string, one_class, one_texts, one_rows, one_bytes, one_ents, msg23, rep6, ans3] using this
  have m16 : Rd enc w 38 [c18, c19, c20, c21, c22, c23] := by have := ms 16 _ rfl; simpa [one_int, one_i64, one_u64, one_bool, one_string, one_class, one_texts, one_rows, one_bytes, one_ents, msg23, rep6, ans3] using this
  have m17 : Rd enc w 3 [c24] := by have := ms 17 _ rfl; simpa [one_int, one_i64, one_u64, one_bool, one_string, one_class, one_texts, one_rows, one_bytes, one_ents, msg23, rep6, ans3] using this
  have rs := (m16.struct Tryd.underlying38).2
  have r0 : Rd enc w 29 [c18] := by have := rs 0 _ rfl; simpa [one_int, one_i64, one_u64, one_bool, one_string, one_class, one_texts, one_rows, one_bytes, one_ents, msg23, rep6, ans3] using this
  have r1 : Rd enc w 32 [c19] := by have := rs 1 _ rfl; simpa [one_int, one_i64, one_u64, one_bool, one_string, one_class, one_texts, one_rows, one_bytes, one_ents, msg23, rep6, ans3] using this
  have r2 : Rd enc w 36 [c20, c21, c22] := by have := rs 2 _ rfl; simpa [one_int, one_i64, one_u64, one_bool, one_string, one_class, one_texts, one_rows, one_bytes, one_ents, msg23, rep6, ans3] using this
  have r3 : Rd enc w 29 [c23] := by have := rs 3 _ rfl; simpa [one_int, one_i64, one_u64, one_bool, one_string, one_class, one_texts, one_rows, one_bytes, one_ents, msg23, rep6, ans3] using this
  have sa := (r2.struct Tryd.underlying36).2
  have a0 : Rd enc w 33 [c20] := by have := sa 0 _ rfl; simpa [one_int, one_i64, one_u64, one_bool, one_string, one_class, one_texts, one_rows, one_bytes, one_ents, msg23, rep6, ans3] using this
  have a1 : Rd enc w 34 [c21] := by have := sa 1 _ rfl; simpa [one_int, one_i64, one_u64, one_bool, one_string, one_class, one_texts, one_rows, one_bytes, one_ents, msg23, rep6, ans3] using this
  have a2 : Rd enc w 3 [c22] := by have := sa 2 _ rfl; simpa [one_int, one_i64, one_u64, one_bool, one_string, one_class, one_texts, one_rows, one_bytes, one_ents, msg23, rep6, ans3] using this
  clear hs ms rs sa s2 m16 r2
  obtain ⟨wh, qwh, _⟩ := s0.int Tryd.underlying3
  simp only [List.cons.injEq, and_true] at qwh
  subst qwh
  obtain ⟨q, qq, zq⟩ := s1.string Tryd.underlying9
  simp only [List.cons.injEq, and_true] at qq
  subst qq
  obtain ⟨mk, qmk, _⟩ := m0.int Tryd.underlying3
  simp only [List.cons.injEq, and_true] at qmk
  subst qmk
  obtain ⟨mf, qmf, _⟩ := m1.int Tryd.underlying3
  simp only [List.cons.injEq, and_true] at qmf
  subst qmf
  obtain ⟨mt, qmt, _⟩ := m2.int Tryd.underlying3
  simp only [List.cons.injEq, and_true] at qmt
  subst qmt
  obtain ⟨mterm, qmterm, _⟩ := m3.int Tryd.underlying29
  simp only [List.cons.injEq, and_true] at qmterm
  subst qmterm
  obtain ⟨mix, qmix, _⟩ := m4.int Tryd.underlying29
  simp only [List.cons.injEq, and_true] at qmix
  subst qmix
  obtain ⟨mlt, qmlt, _⟩ := m5.int Tryd.underlying29
  simp only [List.cons.injEq, and_true] at qmlt
  subst qmlt
  obtain ⟨ment1, ment2, ment3, qment, _⟩ := m6.slice Tryd.underlying30 rfl ent_pos
  simp only [List.cons.injEq, and_true] at qment
  subst qment
  obtain ⟨mcm, qmcm, _⟩ := m7.int Tryd.underlying29
  simp only [List.cons.injEq, and_true] at qmcm
  subst qmcm
  obtain ⟨mrd, qmrd, _⟩ := m8.int Tryd.underlying29
  simp only [List.cons.injEq, and_true] at qmrd
  subst qmrd
  obtain ⟨mok, qmok⟩ := m9.bool Tryd.underlying4
  simp only [List.cons.injEq, and_true] at qmok
  subst qmok
  obtain ⟨moff, qmoff, _⟩ := m10.int Tryd.underlying3
  simp only [List.cons.injEq, and_true] at qmoff
  subst qmoff
  obtain ⟨mdat1, mdat2, mdat3, qmdat, _⟩ := m11.slice Tryd.underlying31 rfl (by rw [show Tryd.prog.cellsOf 5 = 1 by kernel_rfl]; omega)
  simp only [List.cons.injEq, and_true] at qmdat
  subst qmdat
  obtain ⟨mdone, qmdone⟩ := m12.bool Tryd.underlying4
  simp only [List.cons.injEq, and_true] at qmdone
  subst qmdone
  obtain ⟨mcl, qmcl, _⟩ := m13.int Tryd.underlying29
  simp only [List.cons.injEq, and_true] at qmcl
  subst qmcl
  obtain ⟨msq, qmsq, _⟩ := m14.int Tryd.underlying29
  simp only [List.cons.injEq, and_true] at qmsq
  subst qmsq
  obtain ⟨msql, qmsql, zmsql⟩ := m15.string Tryd.underlying9
  simp only [List.cons.injEq, and_true] at qmsql
  subst qmsql
  obtain ⟨mrs, qmrs, _⟩ := r0.int Tryd.underlying29
  simp only [List.cons.injEq, and_true] at qmrs
  subst qmrs
  obtain ⟨mrc, qmrc, _⟩ := r1.int Tryd.underlying32
  simp only [List.cons.injEq, and_true] at qmrc
  subst qmrc
  obtain ⟨mcols1, mcols2, mcols3, qmcols, _⟩ := a0.slice Tryd.underlying33 one_string (by omega)
  simp only [List.cons.injEq, and_true] at qmcols
  subst qmcols
  obtain ⟨mrows1, mrows2, mrows3, qmrows, _⟩ := a1.slice Tryd.underlying34 one_vals (by omega)
  simp only [List.cons.injEq, and_true] at qmrows
  subst qmrows
  obtain ⟨mcnt, qmcnt, _⟩ := a2.int Tryd.underlying3
  simp only [List.cons.injEq, and_true] at qmcnt
  subst qmcnt
  obtain ⟨mridx, qmridx, _⟩ := r3.int Tryd.underlying29
  simp only [List.cons.injEq, and_true] at qmridx
  subst qmridx
  obtain ⟨mh, qmh, _⟩ := m17.int Tryd.underlying3
  simp only [List.cons.injEq, and_true] at qmh
  subst qmh
  obtain ⟨right, qright⟩ := s3.bool Tryd.underlying4
  simp only [List.cons.injEq, and_true] at qright
  subst qright
  exact ⟨b, o, wh, q, mk, mf, mt, mterm, mix, mlt, (ment1, ment2, ment3), mcm, mrd, mok, moff, (mdat1, mdat2, mdat3), mdone, mcl, msq, msql, mrs, mrc, (mcols1, mcols2, mcols3), (mrows1, mrows2, mrows3), mcnt, mridx, mh, right, ha, fun j v hv => by simpa [Nat.add_assoc] using hc j v hv, TextsIn.of a0, RowsIn.of a1, by unfold maxLen at zq; omega⟩
end
end Go.Proofs.YtpkjcdmeabjifaaDoor
