/- SnapPlays: the steps that come in; Save and Load beside the plain law. -/
import Derived.Test.YtcebbgmjbincbaaDoorSn8

namespace Go.Proofs.YtcebbgmjbincbaaDoor
open Go.RowKit Go.Lib

structure Sn.ok (s : Sn) : Prop where
  ix : s.ix < 18446744073709551616
  tm : s.tm < 18446744073709551616
  l : s.l.length ≤ 1500
def fB (s : Sn) : List UInt8 := frame (snB s.ix s.tm s.l)
theorem fB_len {s : Sn} (h : s.ok) : (fB s).length ≤ 3000 := by
  have h0 := h.l
  have h1 := uvarint_length64 (x := s.ix) h.ix
  have h2 := uvarint_length64 (x := s.tm) h.tm
  unfold fB
  rw [frame_length]
  simp [snB]
  omega
/-- the newest after a Save of x that was done -/
def nx (cur : Option Sn) (x : Sn) : Sn := match cur with
  | none => x
  | some c => if x.ix < c.ix then c else x
def sv (d : DSt) (cur : Option Sn) (x : Sn) : DSt × DRes := match cur with
  | none => d.save (fB x)
  | some c => if x.ix < c.ix then (d, .ok) else d.save (fB x)
abbrev SJn (d : DSt) (cur : Option Sn) : Prop := SJ d (cur.map fB)
theorem sv_si {d : DSt} {cur : Option Sn} (h : SJn d cur) (ho : d.off = false) {x : Sn} (hx : x.ok) : ((sv d cur x).2 = .ok ∧ SJn (sv d cur x).1 (some (nx cur x))) ∨ ((sv d cur x).2 = .down ∧ SJn (sv d cur x).1 cur) := by
  cases cur with
  | none => exact save_si h ho _ (fB_len hx)
  | some c =>
    by_cases e : x.ix < c.ix
    · simp only [sv, nx, if_pos e]
      exact .inl ⟨trivial, h⟩
    · simp only [sv, nx, if_neg e]
      exact save_si h ho _ (fB_len hx)
theorem sv_count (d : DSt) (cur : Option Sn) (x : Sn) : (sv d cur x).1.count ≤ d.count + 4 := by
  have := save_count d (fB x)
  cases cur with
  | none => exact this
  | some c => simp only [sv]; split <;> (try simp only []) <;> omega

section
variable {w : World} {L : List Nat} {db : Nat} {d : DSt}
theorem save_any (h : Disk w L db d) (ho : d.off = false) (hc : d.count < 1000000000) {cur : Option Sn} (hJ : SJn d cur) (hcur : ∀ c, cur = some c → c.ok) {x : Sn} (hx : x.ok) {ao : Option Addr} {c : Nat} (hl : Rb w ao c x.l) :
    Calls Tryd.prog 44 #[.pointer (some ⟨db, 0, none⟩), .agg #[.int .u64 (x.ix : Nat), .int .u64 (x.tm : Nat), .slice ao x.l.length c]] w (DPost w L db (sv d cur x)) := by
  have h0 := hx.l
  cases cur with
  | none => exact save_none h ho hc x.ix x.tm hl (by omega) hx.ix hx.tm hJ.snap
  | some k =>
    have hk := hcur k rfl
    have := hk.l
    exact save_some h ho hc x.ix x.tm hl (by omega) hx.ix hx.tm hJ.snap k.ix k.tm k.l rfl (by omega) hk.ix hk.tm
theorem load_sn (h : Disk w L db d) (ho : d.off = false) {cur : Option Sn} (hJ : SJn d cur) (hcur : ∀ c, cur = some c → c.ok) {s : Sn} (hs : s = cur.getD ⟨0, 0, []⟩) :
    Calls Tryd.prog 45 #[.pointer (some ⟨db, 0, none⟩)] w fun e w' => ∃ bo c, e = .returned (.tuple #[.agg #[.int .u64 (s.ix : Nat), .int .u64 (s.tm : Nat), .slice bo s.l.length c], .bool cur.isSome, .nilIface]) ∧ OwnG w' bo c s.l ∧ (∀ x ∈ blks bo, w.heap.size ≤ x) ∧ Keeps [] w w' := by
  subst hs
  cases cur with
  | none =>
    refine (load_none h ho hJ.snap).mono ?_
    rintro e w' ⟨rfl, hk⟩
    exact ⟨none, 0, rfl, OwnG.nil _, by simp, hk⟩
  | some k =>
    have hk := hcur k rfl
    have := hk.l
    refine (load_some h ho hJ.snap k.ix k.tm k.l rfl (by omega) hk.ix hk.tm).mono ?_
    rintro e w' ⟨bo, c, rfl, hO, hk⟩
    exact ⟨bo, c, rfl, OwnG.of hO, fun x hx => (hO.lt x hx).1, hk⟩
end

/-- a step of the law -/
structure Ss where
  what : Int
  halt : Int
  s : Sn
  da : Option Addr
  dc : Nat
  ka : Option Addr
  kc : Nat
  keep : List Int
def Ss.cells (x : Ss) : List Value := [.int .i64 x.what, .int .i64 x.halt, .int .u64 (x.s.ix : Nat), .int .u64 (x.s.tm : Nat), .slice x.da x.s.l.length x.dc, .slice x.ka x.keep.length x.kc]
structure Ss.okw (w : World) (x : Ss) : Prop where
  ix : x.s.ix < 18446744073709551616
  tm : x.s.tm < 18446744073709551616
  ht : x.halt ≤ 9223372036854775807
  wh : -9223372036854775808 ≤ x.what ∧ x.what ≤ 9223372036854775807
  rb : Rb w x.da x.dc x.s.l
  kp : Sl w 1 x.ka x.keep.length x.kc (x.keep.map (Value.int .i64))
theorem in_one_int : Tryd.prog.cellsOf 3 = 1 := by kernel_rfl
theorem in_one_u64 : Tryd.prog.cellsOf 67 = 1 := by kernel_rfl
theorem in_one_bs : Tryd.prog.cellsOf 22 = 1 := by kernel_rfl
theorem in_one_is : Tryd.prog.cellsOf 34 = 1 := by kernel_rfl
theorem in_sn3 : Tryd.prog.cellsOf 69 = 3 := by kernel_rfl
theorem in_cr1 : Tryd.prog.cellsOf 36 = 1 := by kernel_rfl
theorem in_st6 : Tryd.prog.cellsOf 89 = 6 := by kernel_rfl
theorem sizeSt : (Tryd.prog.info? 89).map (·.size) = some 6 := by kernel_rfl
theorem sizeCr : (Tryd.prog.info? 36).map (·.size) = some 1 := by kernel_rfl
theorem in_cons {n : Nat} {l : List Value} (h : l.length = n + 1) : ∃ c r, l = c :: r ∧ r.length = n := by
  cases l with
  | nil => simp at h
  | cons c r => exact ⟨c, r, rfl, by simpa using h⟩
section
variable {H : Type} {enc : TypeId × Value → H} {w : World}
theorem ints_in {a : Option Addr} {len cap : Nat} (h : Rd enc w 34 [.slice a len cap]) : ∃ l : List Int, l.length = len ∧ Sl w 1 a len cap (l.map (Value.int .i64)) := by
  obtain ⟨l, hl, _, hS⟩ := sl_in h Tryd.underlying34 in_one_int (by omega) (0 : Int) (fun b => [Value.int .i64 b]) (fun _ => True) (fun _ => rfl)
    (by intro v u hu; simp at hu; subst hu; rfl) (fun cs hc => by
      obtain ⟨m, rfl, _⟩ := hc.int Tryd.underlying3
      exact ⟨m, rfl, trivial⟩)
  rw [flat_one] at hS
  exact ⟨l, hl, hS⟩
theorem ss_in {cs : List Value} (h : Rd enc w 89 cs) : ∃ x : Ss, cs = x.cells ∧ x.okw w := by
  obtain ⟨hl, hs⟩ := h.struct Tryd.underlying89
  rw [in_st6] at hl
  obtain ⟨c0, l0, rfl, e0⟩ := in_cons hl
  obtain ⟨c1, l1, rfl, e1⟩ := in_cons e0
  obtain ⟨c2, l2, rfl, e2⟩ := in_cons e1
  obtain ⟨c3, l3, rfl, e3⟩ := in_cons e2
  obtain ⟨c4, l4, rfl, e4⟩ := in_cons e3
  obtain ⟨c5, l5, rfl, e5⟩ := in_cons e4
  obtain rfl := List.eq_nil_of_length_eq_zero e5
  have k0 : Rd enc w 3 [c0] := by have := hs 0 _ rfl; simpa [in_one_int] using this
  have k1 : Rd enc w 3 [c1] := by have := hs 1 _ rfl; simpa [in_one_int] using this
  have k2 : Rd enc w 69 [c2, c3, c4] := by have := hs 2 _ rfl; simpa [in_one_int, in_sn3] using this
  have k3 : Rd enc w 36 [c5] := by have := hs 3 _ rfl; simpa [in_one_int, in_sn3, in_cr1] using this
  obtain ⟨-, hs2⟩ := k2.struct Tryd.underlying69
  obtain ⟨-, hs3⟩ := k3.struct Tryd.underlying36
  have m0 : Rd enc w 67 [c2] := by have := hs2 0 _ rfl; simpa [in_one_u64] using this
  have m1 : Rd enc w 67 [c3] := by have := hs2 1 _ rfl; simpa [in_one_u64] using this
  have m2 : Rd enc w 22 [c4] := by have := hs2 2 _ rfl; simpa [in_one_u64, in_one_bs] using this
  have m3 : Rd enc w 34 [c5] := by have := hs3 0 _ rfl; simpa [in_one_is] using this
  obtain ⟨x0, ex0, h0⟩ := k0.int Tryd.underlying3
  obtain ⟨x1, ex1, h1⟩ := k1.int Tryd.underlying3
  obtain ⟨x2, ex2, h2⟩ := m0.int Tryd.underlying67
  obtain ⟨x3, ex3, h3⟩ := m1.int Tryd.underlying67
  obtain ⟨da, dl, dc, ed, _⟩ := m2.slice Tryd.underlying22 in_one_u8 (by omega)
  obtain ⟨ka, kl, kc, ek, _⟩ := m3.slice Tryd.underlying34 in_one_int (by omega)
  simp only [List.cons.injEq, and_true] at ex0 ex1 ex2 ex3 ed ek
  subst ex0 ex1 ex2 ex3 ed ek
  obtain ⟨l, rfl, hR⟩ := rb_in m2
  obtain ⟨keep, rfl, hK⟩ := ints_in m3
  have b0 := bounds_i64 h0
  have b1 := bounds_i64 h1
  have b2 := bounds_u64 h2
  have b3 := bounds_u64 h3
  obtain ⟨n2, rfl⟩ := Int.eq_ofNat_of_zero_le b2.1
  obtain ⟨n3, rfl⟩ := Int.eq_ofNat_of_zero_le b3.1
  exact ⟨⟨x0, x1, ⟨n2, n3, l⟩, da, dc, ka, kc, keep⟩, rfl, by simp only []; omega, by simp only []; omega, by simp only []; omega, by simp only []; omega, hR, hK⟩
/-- the steps that came in -/
def SsIn (w : World) (a : Option Addr) (l : List Ss) : Prop := ∀ (k : Nat) s, l[k]? = some s → s.okw w ∧ ∃ b o, a = some ⟨b, o, none⟩ ∧ ∀ j v, s.cells[j]? = some v → w.cell? ⟨b, o + k * 6 + j, none⟩ = some v
theorem ssteps_in {a : Option Addr} {len cap : Nat} (h : Rd enc w 87 [.slice a len cap]) : ∃ l : List Ss, l.length = len ∧ SsIn w a l := by
  obtain ⟨l, hl, hq, hS⟩ := sl_in h Tryd.underlying87 in_st6 (by omega) (⟨0, 0, ⟨0, 0, []⟩, none, 0, none, 0, []⟩ : Ss) (fun v => v.cells) (fun v => v.okw w) (fun _ => rfl)
    (by intro v u hu; simp [Ss.cells] at hu; rcases hu with rfl | rfl | rfl | rfl | rfl | rfl <;> rfl) (fun cs hc => ss_in hc)
  refine ⟨l, hl, fun k s hk => ⟨hq s (List.mem_of_getElem? hk), ?_⟩⟩
  have hkl := (List.getElem?_eq_some_iff.1 hk).1
  have hc := hS.cap
  obtain ⟨b, o, rfl⟩ := hS.at (by omega)
  refine ⟨b, o, rfl, fun j v hj => ?_⟩
  have hj6 : j < 6 := by have := (List.getElem?_eq_some_iff.1 hj).1; simpa [Ss.cells] using this
  have := hS.cell _ rfl (k * 6 + j) v ((flat_at (fun v : Ss => v.cells) 6 (fun _ => rfl) l k j s hk hj6).trans hj)
  simpa [Nat.add_assoc] using this
end
end Go.Proofs.YtcebbgmjbincbaaDoor
