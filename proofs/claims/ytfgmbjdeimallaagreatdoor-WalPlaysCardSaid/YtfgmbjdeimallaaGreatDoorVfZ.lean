/- The wal's laws: steps; few. -/
import Derived.Test.YtfgmbjdeimallaaGreatDoorWdZ
import Derived.Test.YtfgmbjdeimallaaGreatDoorWinZ
import Derived.Test.YtfgmbjdeimallaaGreatDoorBy

namespace Go.Proofs.YtfgmbjdeimallaaGreatDoor
open Go.RowKit Go.Lib

/-- a step, where its slices lie -/
structure Wp where
  what : Int
  n : Int
  ix : Nat
  tm : Nat
  vote : Int
  la : Option Addr
  lc : Nat
  l : List Ent
  ka : Option Addr
  kc : Nat
  keep : List Int
def Wp.cells (x : Wp) : List Value := [.int .i64 x.what, .int .i64 x.n, .int .u64 (x.ix : Nat), .int .u64 (x.tm : Nat), .int .i64 x.vote, .slice x.la x.l.length x.lc, .slice x.ka x.keep.length x.kc]
structure Wp.okw (w : World) (x : Wp) : Prop where
  n : x.n ≤ 9223372036854775807
  ix : x.ix < 18446744073709551616
  tm : x.tm < 18446744073709551616
  re : Re w x.la x.lc x.l
  ents : ∀ e ∈ x.l, e.term < 18446744073709551616 ∧ e.client < 18446744073709551616 ∧ e.seq < 18446744073709551616
  sl : Sl w 1 x.ka x.keep.length x.kc (x.keep.map (Value.int .i64))
def WpIn (w : World) (a : Option Addr) (l : List Wp) : Prop := ∀ (k : Nat) s, l[k]? = some s → s.okw w ∧ ∃ b o, a = some ⟨b, o, none⟩ ∧ ∀ j v, s.cells[j]? = some v → w.cell? ⟨b, o + k * 7 + j, none⟩ = some v
theorem Wp.okw.keep {w w' : World} {x : Wp} (h : x.okw w) (hk : Keeps [] w w') : x.okw w' := ⟨h.n, h.ix, h.tm, h.re.keep0 hk, h.ents, h.sl.keep0 hk⟩
theorem WpIn.keep {w w' : World} {a : Option Addr} {l : List Wp} (h : WpIn w a l) (hk : Keeps [] w w') : WpIn w' a l := fun k s hs => by
  obtain ⟨h1, b, o, h2, h3⟩ := h k s hs
  exact ⟨h1.keep hk, b, o, h2, fun j v hv => hk.cellSome (h3 j v hv) (by simp)⟩
def sumE (l : List Ent) : Nat := (l.map fun x => x.sql.size + 40).sum
def sumW (l : List Wp) : Nat := (l.map fun s => sumE s.l).sum
def fewAt (s : Wp) : Prop := small s.l 12 = true ∧ s.keep.length ≤ 100
structure FewOk (l : List Wp) : Prop where
  len : l.length ≤ 50
  each : ∀ s ∈ l, fewAt s
  sum : sumW l ≤ 12000
theorem sumE_le (l : List Ent) (h : small l 12 = true) : sumE l ≤ 12 * 2140 := by
  simp only [small, Bool.and_eq_true, List.all_eq_true, decide_eq_true_eq] at h
  obtain ⟨h1, h2⟩ := h
  have h3 : ∀ l : List Ent, (∀ x ∈ l, x.sql.size ≤ 2100) → sumE l ≤ l.length * 2140 := by
    intro l
    induction l with
    | nil => intro _; simp [sumE]
    | cons x l ih =>
      intro h
      have := ih (fun y hy => h y (.tail _ hy))
      have := h x (.head _)
      simp only [sumE, List.map_cons, List.sum_cons, List.length_cons] at *
      omega
  have h4 : l.length ≤ 12 := by omega
  exact Nat.le_trans (h3 l h1) (Nat.mul_le_mul_right 2140 h4)
theorem sumW_le (l : List Wp) (h : ∀ s ∈ l, fewAt s) : sumW l ≤ l.length * 25680 := by
  induction l with
  | nil => exact Nat.zero_le _
  | cons s l ih =>
    have h2 := ih (fun y hy => h y (.tail _ hy))
    have h1 := sumE_le s.l (h s (.head _)).1
    have e1 : sumW (s :: l) = sumE s.l + sumW l := rfl
    rw [e1, List.length_cons]
    omega
theorem sumE_succ {l : List Ent} {k : Nat} {x : Ent} (h : l[k]? = some x) : sumE (l.take (k + 1)) = sumE (l.take k) + (x.sql.size + 40) := by
  obtain ⟨hj, rfl⟩ := List.getElem?_eq_some_iff.1 h
  have e1 : l.take (k + 1) = l.take k ++ [l[k]] := by rw [List.take_add_one, List.getElem?_eq_getElem hj]; rfl
  unfold sumE
  rw [e1, List.map_append, List.sum_append]
  simp
theorem sumW_succ {l : List Wp} {k : Nat} {x : Wp} (h : l[k]? = some x) : sumW (l.take (k + 1)) = sumW (l.take k) + sumE x.l := by
  obtain ⟨hj, rfl⟩ := List.getElem?_eq_some_iff.1 h
  have e1 : l.take (k + 1) = l.take k ++ [l[k]] := by rw [List.take_add_one, List.getElem?_eq_getElem hj]; rfl
  unfold sumW
  rw [e1, List.map_append, List.sum_append]
  simp
theorem sumE_take (l : List Ent) (k : Nat) : sumE (l.take k) ≤ sumE l := by
  have h : sumE l = sumE (l.take k) + sumE (l.drop k) := by
    unfold sumE
    rw [← List.sum_append, ← List.map_append, List.take_append_drop]
  omega

/-- what few says -/
def FwPost (w : World) (ls : List Wp) (e : Ending) (w' : World) : Prop := ∃ q : Bool, e = .returned (.bool q) ∧ (q = true → FewOk ls) ∧ Keeps [] w w'
def FwRel (w wr : World) (ls : List Wp) (i : Nat) (m : Int) : Prop := i ≤ ls.length ∧ (ls.length ≤ 50 → m = (sumW (ls.take i) : Nat)) ∧ (∀ s ∈ ls.take i, fewAt s) ∧ Keeps [] w wr
def FwIn (w wr : World) (ls : List Wp) (i : Nat) (s : Wp) (k : Nat) (m : Int) : Prop := k ≤ s.l.length ∧ (ls.length ≤ 50 → m = (sumW (ls.take i) + sumE (s.l.take k) : Nat)) ∧ Keeps [] w wr

set_option maxRecDepth 100000 in
set_option maxHeartbeats 8000000 in
theorem wlfew (a : Option Addr) (c : Nat) (ls : List Wp) (w : World) (h : WpIn w a ls) (hlen : ls.length ≤ 9223372036854775807) : Calls Tryz.prog 6 #[.slice a ls.length c] w (FwPost w ls) := by
  have H0 := Lib.hid h
  clear h
  go_enter Tryz.func6, Tryz.ntmps6
  go_wp2_with fail
  go_loopw [3, 4] (fun v ix wr => ∃ (i : Nat) (m : Int), v = .int .i64 m ∧ ix = .int .i64 (i : Int) ∧ FwRel w wr ls i m) (fun _ ix _ => ls.length - (intOf ix).toNat)
  case atStart => exact ⟨0, 0, rfl, rfl, Nat.zero_le _, fun _ => by simp [sumW], by simp, Keeps.refl _ _⟩
  case round =>
    obtain ⟨i, m, rfl, rfl, hi, hm, hall, hk⟩ := hrel
    rcases (by omega : i < ls.length ∨ i = ls.length) with hil | rfl
    · have n1 : (i : Int) < (ls.length : Int) := by omega
      have s1 : IntKind.i64.wrap ((i : Int) + 1) = i + 1 := IntWalk.i64_in _ (by omega)
      have hv := List.getElem?_eq_getElem hil
      have hmem := List.getElem_mem hil
      generalize ls[i] = s at hv hmem
      obtain ⟨hok, b, o, rfl, hc⟩ := (H0.out.keep hk) i s hv
      have c5 := hc 5 _ rfl
      have c6 := hc 6 _ rfl
      have hsm := small_any s.la s.lc s.l 12 wr hok.re
      have hkeep := hok.sl.cap
      have hkm := hok.sl.most
      have hrc := hok.re.cap
      have hrm := hok.re.most
      unfold maxLen at hkm hrm
      have HS := Lib.hid (And.intro hsm (And.intro hok (And.intro hv (And.intro hm (And.intro hall hk)))))
      obtain ⟨q, hq⟩ : ∃ q, q = small s.l 12 := ⟨_, rfl⟩
      have HQ := Lib.hid hq
      rw [← hq] at HS
      clear hsm hok hv hm hall hk hc hq hmem
      go_wp2_with fail
      refine HS.out.1.mono ?_
      rintro e w2 ⟨rfl, hw⟩
      obtain rfl := hw.symm
      cases q with
      | false =>
        have HF := Lib.hid HS.out.2.2.2.2.2
        go_wp2_with fail
        go_ret
        exact ⟨false, rfl, by simp, HF.out⟩
      | true =>
        by_cases hkp : 100 < s.keep.length
        · have n2 : (100 : Int) < (s.keep.length : Int) := by omega
          have HF := Lib.hid HS.out.2.2.2.2.2
          go_wp2_with fail
          go_ret
          exact ⟨false, rfl, by simp, HF.out⟩
        have n2 : ¬ ((100 : Int) < (s.keep.length : Int)) := by omega
        go_wp2_with fail
        go_loopw [3, 5] (fun v kx wr => ∃ (k : Nat) (m : Int), v = .int .i64 m ∧ kx = .int .i64 (k : Int) ∧ FwIn w wr ls i s k m) (fun _ kx _ => s.l.length - (intOf kx).toNat)
        case atStart => exact ⟨0, m, rfl, rfl, Nat.zero_le _, fun h => by rw [HS.out.2.2.2.1 h]; simp [sumE], HS.out.2.2.2.2.2⟩
        case round =>
          obtain ⟨k, m, rfl, rfl, hk, hm, hkk⟩ := hrel
          have hok2 := HS.out.2.1
          have hin := H0.out.keep hkk
          obtain ⟨hokr, b2, o2, e2, hc2⟩ := hin i s HS.out.2.2.1
          cases e2
          have c5 := hc2 5 _ rfl
          have hsE := sumE_le s.l HQ.out.symm
          have hsW := sumW_le (ls.take i) HS.out.2.2.2.2.1
          simp only [List.length_take] at hsW
          rcases (by omega : k < s.l.length ∨ k = s.l.length) with hkl | rfl
          · have n3 : (k : Int) < (s.l.length : Int) := by omega
            have s2 : IntKind.i64.wrap ((k : Int) + 1) = k + 1 := IntWalk.i64_in _ (by omega)
            have hx := List.getElem?_eq_getElem hkl
            generalize s.l[k] = x at hx
            obtain ⟨eb, eo, hea, d0, d1, d2, d3, d4⟩ := Re.at hokr.re hx
            have hsucc := sumE_succ hx
            have hsk := sumE_take s.l (k + 1)
            have HX := Lib.hid (And.intro hm (And.intro hkk hsucc))
            rw [hea] at c5
            by_cases h50 : ls.length ≤ 50
            · have hmv := hm h50
              have b1 : 0 ≤ m ∧ m + (x.sql.size : Int) + 40 ≤ 9000000 := by omega
              have b2 : (x.sql.size : Int) ≤ 9000000 := by omega
              obtain ⟨b3, b4⟩ := b1
              have HMV := Lib.hid (And.intro hmv (And.intro h50 hsucc))
              clear hm hkk hin hokr hc2 hsE hsW hx hsucc hsk hmv h50 d0 d1 d2 d3
              go_wp2_with fail
              go_roundw
              case rel => exact ⟨k + 1, _, rfl, by simp, by omega, fun _ => by rw [HMV.out.2.2]; have := HMV.out.1; omega, HX.out.2.1⟩
              case measure => simp [intOf]; omega
            · have H50 := Lib.hid h50
              clear hm hkk hin hokr hc2 hsE hsW hx hsucc hsk h50 d0 d1 d2 d3
              go_wp2_with fail
              go_roundw
              case rel => exact ⟨k + 1, _, rfl, by simp, by omega, fun h => absurd h H50.out, HX.out.2.1⟩
              case measure => simp [intOf]; omega
          · have n3 : ¬ ((s.l.length : Int) < (s.l.length : Int)) := by omega
            have HX := Lib.hid (And.intro hm hkk)
            clear hm hkk hin hokr hc2 hsE hsW
            go_wp2_with fail
            go_roundw
            case rel =>
              obtain ⟨hm, hkk⟩ := HX.out
              obtain ⟨-, hok, hv, hm0, hall, hk0⟩ := HS.out
              refine ⟨i + 1, m, rfl, by simp, by omega, fun h => ?_, fun y hy => ?_, hkk⟩
              · rw [hm h, sumW_succ hv, List.take_length]
              · obtain ⟨hj, rfl⟩ := List.getElem?_eq_some_iff.1 hv
                have e1 : ls.take (i + 1) = ls.take i ++ [ls[i]] := by rw [List.take_add_one, List.getElem?_eq_getElem hj]; rfl
                rw [e1] at hy
                rcases List.mem_append.1 hy with hy | hy
                · exact hall y hy
                · simp at hy
                  subst hy
                  exact ⟨HQ.out.symm, by omega⟩
            case measure => simp [intOf]; omega
    · have n1 : ¬ ((ls.length : Int) < (ls.length : Int)) := by omega
      rw [List.take_length] at hm hall
      by_cases h50 : ls.length ≤ 50
      · have n2 : (ls.length : Int) ≤ 50 := by omega
        have hmv := hm h50
        by_cases h12 : m ≤ 12000
        · have FIN : Hid (FwPost w ls (.returned (.bool true)) wr) := Lib.hid ⟨true, rfl, fun _ => ⟨h50, hall, by omega⟩, hk⟩
          clear hm hmv hall hk
          go_wp2_with fail
          go_ret
          exact FIN.out
        · have FIN : Hid (FwPost w ls (.returned (.bool false)) wr) := Lib.hid ⟨false, rfl, by simp, hk⟩
          clear hm hmv hall hk
          go_wp2_with fail
          go_ret
          exact FIN.out
      · have n2 : ¬ ((ls.length : Int) ≤ 50) := by omega
        have FIN : Hid (FwPost w ls (.returned (.bool false)) wr) := Lib.hid ⟨false, rfl, by simp, hk⟩
        clear hm hall hk
        go_wp2_with fail
        go_ret
        exact FIN.out
end Go.Proofs.YtfgmbjdeimallaaGreatDoor
/- The wal's laws: bytes, integers, a crash that come in. -/
namespace Go.Proofs.YtfgmbjdeimallaaGreatDoor
open Go.RowKit

theorem vin_u8 : Tryz.prog.cellsOf 5 = 1 := by kernel_rfl
theorem vin_int : Tryz.prog.cellsOf 3 = 1 := by kernel_rfl
theorem vin_ints : Tryz.prog.cellsOf 27 = 1 := by kernel_rfl
theorem vin_crash : Tryz.prog.cellsOf 29 = 1 := by kernel_rfl
theorem vflat_bys (l : List UInt8) : (l.map fun b => [Value.int .u8 (b.toNat : Nat)]).flatten = bys l := by
  induction l with
  | nil => rfl
  | cons x l ih =>
    rw [List.map_cons, List.flatten_cons, ih]
    rfl
theorem vflat_one {α : Type} (f : α → Value) (l : List α) : (l.map fun b => [f b]).flatten = l.map f := by
  induction l with
  | nil => rfl
  | cons x l ih =>
    rw [List.map_cons, List.flatten_cons, ih]
    rfl
section
variable {H : Type} {enc : TypeId × Value → H} {w : World}
theorem vrb_in {a : Option Addr} {len cap : Nat} (h : Rd enc w 26 [.slice a len cap]) : ∃ l : List UInt8, l.length = len ∧ Rb w a cap l := by
  obtain ⟨l, hl, _, hS⟩ := sl_in h Tryz.underlying26 vin_u8 (by omega) (0 : UInt8) (fun b => [Value.int .u8 (b.toNat : Nat)]) (fun _ => True) (fun _ => rfl)
    (by intro v u hu; simp at hu; subst hu; rfl) (fun cs hc => by
      obtain ⟨m, rfl, hm⟩ := hc.int Tryz.underlying5
      have hb := bounds_u8 hm
      have e : ((UInt8.ofNat m.toNat).toNat : Int) = m := by rw [UInt8.toNat_ofNat']; omega
      exact ⟨UInt8.ofNat m.toNat, by rw [e], trivial⟩)
  subst hl
  rw [vflat_bys] at hS
  exact ⟨l, rfl, hS⟩
theorem vints_in {a : Option Addr} {len cap : Nat} (h : Rd enc w 27 [.slice a len cap]) : ∃ l : List Int, l.length = len ∧ Sl w 1 a len cap (l.map (Value.int .i64)) := by
  obtain ⟨l, hl, _, hS⟩ := sl_in h Tryz.underlying27 vin_int (by omega) (0 : Int) (fun b => [Value.int .i64 b]) (fun _ => True) (fun _ => rfl)
    (by intro v u hu; simp at hu; subst hu; rfl) (fun cs hc => by
      obtain ⟨m, rfl, _⟩ := hc.int Tryz.underlying3
      exact ⟨m, rfl, trivial⟩)
  rw [vflat_one] at hS
  exact ⟨l, hl, hS⟩
theorem vcrash_in {cs : List Value} (h : Rd enc w 29 cs) : ∃ (ka : Option Addr) (kc : Nat) (keep : List Int), cs = [.slice ka keep.length kc] ∧ Sl w 1 ka keep.length kc (keep.map (Value.int .i64)) := by
  obtain ⟨hl, hs⟩ := h.struct Tryz.underlying29
  rw [vin_crash] at hl
  obtain ⟨c, rfl⟩ := List.length_eq_one_iff.1 hl
  have m : Rd enc w 27 [c] := by have := hs 0 _ rfl; simpa [vin_ints] using this
  obtain ⟨ka, kl, kc, ek, _⟩ := m.slice Tryz.underlying27 vin_int (by omega)
  simp only [List.cons.injEq, and_true] at ek
  subst ek
  obtain ⟨keep, rfl, hK⟩ := vints_in m
  exact ⟨ka, kc, keep, rfl, hK⟩
end
end Go.Proofs.YtfgmbjdeimallaaGreatDoor
/- The wal's laws: what comes in: a hard state, steps. -/
namespace Go.Proofs.YtfgmbjdeimallaaGreatDoor
open Go.RowKit

theorem vin_u64 : Tryz.prog.cellsOf 23 = 1 := by kernel_rfl
theorem vin_ents : Tryz.prog.cellsOf 22 = 1 := by kernel_rfl
theorem vin_hard : Tryz.prog.cellsOf 25 = 2 := by kernel_rfl
theorem vin_step : Tryz.prog.cellsOf 33 = 7 := by kernel_rfl
theorem vin_cons {c : List Value} {n : Nat} (h : c.length = n + 1) : ∃ a r, c = a :: r ∧ r.length = n := by
  cases c with
  | nil => simp at h
  | cons c r => exact ⟨c, r, rfl, by simpa using h⟩
section
variable {H : Type} {enc : TypeId × Value → H} {w : World}
theorem vhard_in {cs : List Value} (h : Rd enc w 25 cs) : ∃ (t : Nat) (v : Int), cs = [.int .u64 (t : Nat), .int .i64 v] ∧ t < 18446744073709551616 := by
  obtain ⟨hl, hs⟩ := h.struct Tryz.underlying25
  rw [vin_hard] at hl
  obtain ⟨c0, l0, rfl, e0⟩ := vin_cons hl
  obtain ⟨c1, l1, rfl, e1⟩ := vin_cons e0
  obtain rfl := List.eq_nil_of_length_eq_zero e1
  have k0 : Rd enc w 23 [c0] := by have := hs 0 _ rfl; simpa [vin_u64] using this
  have k1 : Rd enc w 3 [c1] := by have := hs 1 _ rfl; simpa [vin_u64, vin_int] using this
  obtain ⟨x0, ex0, h0⟩ := k0.int Tryz.underlying23
  obtain ⟨x1, ex1, h1⟩ := k1.int Tryz.underlying3
  simp only [List.cons.injEq, and_true] at ex0 ex1
  subst ex0 ex1
  have b0 := bounds_u64 h0
  obtain ⟨n0, rfl⟩ := Int.eq_ofNat_of_zero_le b0.1
  exact ⟨n0, x1, rfl, by omega⟩
theorem vstep_in {cs : List Value} (h : Rd enc w 33 cs) : ∃ x : Wp, cs = x.cells ∧ x.okw w := by
  obtain ⟨hl, hs⟩ := h.struct Tryz.underlying33
  rw [vin_step] at hl
  obtain ⟨c0, l0, rfl, e0⟩ := vin_cons hl
  obtain ⟨c1, l1, rfl, e1⟩ := vin_cons e0
  obtain ⟨c2, l2, rfl, e2⟩ := vin_cons e1
  obtain ⟨c3, l3, rfl, e3⟩ := vin_cons e2
  obtain ⟨c4, l4, rfl, e4⟩ := vin_cons e3
  obtain ⟨c5, l5, rfl, e5⟩ := vin_cons e4
  obtain ⟨c6, l6, rfl, e6⟩ := vin_cons e5
  obtain rfl := List.eq_nil_of_length_eq_zero e6
  have k0 : Rd enc w 3 [c0] := by have := hs 0 _ rfl; simpa [vin_int] using this
  have k1 : Rd enc w 3 [c1] := by have := hs 1 _ rfl; simpa [vin_int] using this
  have k2 : Rd enc w 23 [c2] := by have := hs 2 _ rfl; simpa [vin_int, vin_u64] using this
  have k3 : Rd enc w 23 [c3] := by have := hs 3 _ rfl; simpa [vin_int, vin_u64] using this
  have k4 : Rd enc w 3 [c4] := by have := hs 4 _ rfl; simpa [vin_int, vin_u64] using this
  have k5 : Rd enc w 22 [c5] := by have := hs 5 _ rfl; simpa [vin_int, vin_u64, vin_ents] using this
  have k6 : Rd enc w 29 [c6] := by have := hs 6 _ rfl; simpa [vin_int, vin_u64, vin_ents, vin_crash] using this
  obtain ⟨x0, ex0, h0⟩ := k0.int Tryz.underlying3
  obtain ⟨x1, ex1, h1⟩ := k1.int Tryz.underlying3
  obtain ⟨x2, ex2, h2⟩ := k2.int Tryz.underlying23
  obtain ⟨x3, ex3, h3⟩ := k3.int Tryz.underlying23
  obtain ⟨x4, ex4, h4⟩ := k4.int Tryz.underlying3
  obtain ⟨la, ll, lc, el, _⟩ := k5.slice Tryz.underlying22 in_ent5 (by omega)
  obtain ⟨ka, kc, keep, ek, hK⟩ := vcrash_in k6
  simp only [List.cons.injEq, and_true] at ex0 ex1 ex2 ex3 ex4 el ek
  subst ex0 ex1 ex2 ex3 ex4 el ek
  obtain ⟨l, rfl, he, hR⟩ := ents_in k5
  have b1 := bounds_i64 h1
  have b2 := bounds_u64 h2
  have b3 := bounds_u64 h3
  obtain ⟨n2, rfl⟩ := Int.eq_ofNat_of_zero_le b2.1
  obtain ⟨n3, rfl⟩ := Int.eq_ofNat_of_zero_le b3.1
  exact ⟨⟨x0, x1, n2, n3, x4, la, lc, l, ka, kc, keep⟩, rfl, by simp only []; omega, by simp only []; omega, by simp only []; omega, hR, he, hK⟩
theorem wsteps_in {a : Option Addr} {len cap : Nat} (h : Rd enc w 34 [.slice a len cap]) : ∃ l : List Wp, l.length = len ∧ WpIn w a l := by
  obtain ⟨l, hl, hq, hS⟩ := sl_in h Tryz.underlying34 vin_step (by omega) (⟨0, 0, 0, 0, 0, none, 0, [], none, 0, []⟩ : Wp) (fun v => v.cells) (fun v => v.okw w) (fun _ => rfl)
    (by intro v u hu; simp [Wp.cells] at hu; rcases hu with rfl | rfl | rfl | rfl | rfl | rfl | rfl <;> rfl) (fun cs hc => vstep_in hc)
  refine ⟨l, hl, fun k s hk => ⟨hq s (List.mem_of_getElem? hk), ?_⟩⟩
  have hkl := (List.getElem?_eq_some_iff.1 hk).1
  have hc := hS.cap
  obtain ⟨b, o, rfl⟩ := hS.at (by omega)
  refine ⟨b, o, rfl, fun j v hj => ?_⟩
  have hj7 : j < 7 := by have := (List.getElem?_eq_some_iff.1 hj).1; simpa [Wp.cells] using this
  have := hS.cell _ rfl (k * 7 + j) v ((flat_at (fun v : Wp => v.cells) 7 (fun _ => rfl) l k j s hk hj7).trans hj)
  simpa [Nat.add_assoc] using this
end
end Go.Proofs.YtfgmbjdeimallaaGreatDoor
