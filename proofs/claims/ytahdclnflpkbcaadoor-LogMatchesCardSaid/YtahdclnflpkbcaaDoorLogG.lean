/- Logs beside each other; grown; the statements' own known-answer test of the log. -/
import Derived.Test.YtahdclnflpkbcaaDoorLog5
import Derived.Test.YtahdclnflpkbcaaDoorLog7
import Derived.Test.YtahdclnflpkbcaaDoorLog8

namespace Go.Proofs.YtahdclnflpkbcaaDoor
open Go.RowKit

/-- entries do not lie in a log's own block -/
theorem sl_ne {w : World} {b : Nat} {x y : Int} {v : Option Addr} {vn vc : Nat} (hB : Blk w b 77 #[.int .u64 x, .int .u64 y, .slice v vn vc]) {ao : Option Addr} {n c : Nat} {l : List En} (hS : Sl w 5 ao n c (ens l)) (hl : l ≠ []) :
    ∀ ad, ao = some ad → ad.block ≠ b := by
  intro ad ha e
  cases l with
  | nil => exact hl rfl
  | cons en l =>
    have h1 := hS.cell ad ha 1 (.int .i64 en.kind) rfl
    rw [e, hB.cell] at h1
    obtain ⟨ab, o, sp⟩ := ad
    match o, h1 with
    | 0, h1 => simp at h1
    | 1, h1 => simp at h1
    | (o + 2), h1 => simp at h1

theorem LogAt.keepL {w w' : World} {x y : Nat} {gx gy : Lg} (hy : LogAt w y gy) (hx : LogAt w x gx) (hk : Keeps [x] w w') (hne : y ≠ x) : LogAt w' y gy := by
  obtain ⟨ao, c, hB, hS, hap⟩ := hy
  obtain ⟨_, _, hX, _, _⟩ := hx
  refine ⟨ao, c, hB.keep hk (by simpa using hne), hS.keep hk ?_, hap⟩
  intro ad ha hx
  have := sl_ne hX hS (by rintro e; rw [e] at hx; exact hx rfl) ad ha
  simpa using this

/-- a slice of bytes that came in -/
def U8s (w : World) (la : Option Addr) (ll : Nat) (zs : Nat → Int) : Prop := ∀ i, i < ll → ∃ b off, la = some ⟨b, off, none⟩ ∧ w.cell? ⟨b, off + i, none⟩ = some (.int .u8 (zs i)) ∧ 0 ≤ zs i ∧ zs i < 256
theorem U8s.keep {w w' : World} {la : Option Addr} {ll : Nat} {zs : Nat → Int} (h : U8s w la ll zs) (hk : Keeps [] w w') : U8s w' la ll zs := by
  intro i hi
  obtain ⟨b, off, e, hc, h0, h1⟩ := h i hi
  exact ⟨b, off, e, hk.cellSome hc (by simp), h0, h1⟩

set_option maxRecDepth 100000 in
set_option maxHeartbeats 4000000 in
theorem grown_any (la : Option Addr) (ll lc : Nat) (zs : Nat → Int) (w : World) (hll : ll ≤ 30) (hz : U8s w la ll zs) :
    Calls Tryd.prog 15 #[.slice la ll lc] w fun e w' => ∃ b es, e = .returned (.pointer (some ⟨b, 0, none⟩)) ∧ w.heap.size ≤ b ∧ LogAt w' b ⟨0, 0, es⟩ ∧ es.length = ll ∧ Keeps [] w w' := by
  have HZ := Lib.hid hz
  clear hz
  go_enter Tryd.func15, Tryd.ntmps15
  go_wp2_with fail
  refine (lnew 0 0 none 0 0 [] w rfl (Sl.none _ _) (by simp)).mono ?_
  rintro e w1 ⟨b, rfl, hb, hL, hk1⟩
  go_wp2_with fail
  go_loopw [4, 5] (fun t i wr => ∃ (k : Nat) (es : List En) (tv : Int), k ≤ ll ∧ i = .int .i64 (k : Int) ∧ t = .int .u64 tv ∧ 1 ≤ tv ∧ tv ≤ 1 + k ∧ es.length = k ∧ LogAt wr b ⟨0, 0, es⟩ ∧ Keeps [] w wr) (fun _ i _ => ll - (intOf i).toNat)
  case atStart => exact ⟨0, [], 1, by omega, rfl, rfl, by omega, by omega, rfl, hL, hk1⟩
  case round =>
    obtain ⟨k, es, tv, hk, rfl, rfl, ht0, ht1, hes, hLk, hkk⟩ := hrel
    clear hL hk1
    by_cases hlt : k < ll
    · obtain ⟨zb, zo, rfl, hcell, hz0, hz1⟩ := HZ.out k hlt
      have hcell' := hkk.cellSome hcell (by simp)
      clear hcell
      generalize zs k = z at *
      have hq0 : 0 ≤ z.tmod 4 := Int.tmod_nonneg _ hz0
      have hq1 : z.tmod 4 < 4 := Int.tmod_lt_of_pos _ (by omega)
      have hq2 : (z.tmod 4).tdiv 2 ≤ 1 := by
        rw [Int.tdiv_eq_ediv_of_nonneg hq0]; omega
      have hq3 : 0 ≤ (z.tmod 4).tdiv 2 := by
        rw [Int.tdiv_eq_ediv_of_nonneg hq0]; omega
      have q1 : IntKind.u8.wrap (z.tmod 4) = z.tmod 4 := IntWalk.u8_in _ (by omega)
      have q2 : IntKind.u8.wrap ((z.tmod 4).tdiv 2) = (z.tmod 4).tdiv 2 := IntWalk.u8_in _ (by omega)
      have q3 : IntKind.u64.wrap ((z.tmod 4).tdiv 2) = (z.tmod 4).tdiv 2 := IntWalk.u64_in _ (by omega)
      have q4 : IntKind.u64.wrap (tv + (z.tmod 4).tdiv 2) = tv + (z.tmod 4).tdiv 2 := IntWalk.u64_in _ (by omega)
      have hkl : (k : Int) < (ll : Int) := by omega
      go_wp2_with fail
      have hlast : (⟨0, 0, es⟩ : Lg).last < 1000000 := by simp only [Lg.last]; omega
      have ht2 : 1 ≤ tv + z % 4 / 2 ∧ tv + z % 4 / 2 ≤ 1 + ((k : Int) + 1) := by omega
      refine (ladd b ⟨0, 0, es⟩ ⟨tv + z % 4 / 2, 0, 0, 0, ⟨#[]⟩⟩ wr hLk (Int.le_refl _) hlast).mono ?_
      rintro e w3 ⟨rfl, hL3, hk3⟩
      have hk4 : Keeps [] w w3 := hkk.step hk3 (by intro x hx; simp at hx; omega)
      clear hk3 hLk hkk q1 q2 q3 q4 hq0 hq1 hq2 hq3
      generalize tv + z % 4 / 2 = t2 at *
      go_wp2_with fail
      go_roundw
      case rel => exact ⟨k + 1, _, t2, by omega, by go_num, rfl, ht2.1, by omega, by simp [hes], hL3, hk4⟩
      case measure => simp [intOf]; omega
    · have hkl : k = ll := by omega
      subst hkl
      go_wp2_with fail
      go_ret
      exact ⟨b, es, rfl, hb, hLk, hes, hkk⟩

theorem Tryd.enE (t : Int) : En.cells ⟨t, 0, 0, 0, ⟨#[]⟩⟩ = [.int .u64 t, .int .i64 0, .int .u64 0, .int .u64 0, .string ⟨#[]⟩] := rfl

set_option maxRecDepth 100000 in
set_option maxHeartbeats 4000000 in
theorem known_any (w : World) (hg : (w).cell? ⟨0, 0, none⟩ = some (.iface 123 (.agg #[.pointer (some ⟨1, 35, none⟩)]))) :
    Calls Tryd.prog 6 #[] w fun e w' => e = .returned (.bool true) ∧ Keeps [] w w' := by
  let e1 : En := ⟨1, 0, 0, 0, ⟨#[]⟩⟩
  let e2 : En := ⟨2, 0, 0, 0, ⟨#[]⟩⟩
  let e3 : En := ⟨3, 0, 0, 0, ⟨#[]⟩⟩
  have hS0 := Sl.of_blk (n := 3) (sz := 5) (Blk.fresh w 30 (ens [e1, e1, e2]).toArray) rfl (by decide) (ens_one _)
  go_enter Tryd.func6, Tryd.ntmps6
  go_wp2_with fail
  refine (lnew 0 0 _ 3 3 [e1, e1, e2] _ rfl hS0 (by decide)).mono ?_
  rintro e w1 ⟨b, rfl, hb, hL1, hk1⟩
  have hk01 : Keeps [] w w1 := ((Keeps.refl [] w).alloc _).trans hk1
  have hbw : w.heap.size ≤ b := by simp at hb; omega
  clear hk1 hb hS0
  go_wp2_with fail
  have hS1 := Sl.of_blk (n := 1) (sz := 5) (Blk.fresh w1 30 (ens [e3]).toArray) rfl (by decide) (ens_one _)
  have hL1' := hL1.keep0 ((Keeps.refl [] w1).alloc (.cells (ens [e3]).toArray 30))
  have M := lmerge b ⟨0, 0, [e1, e1, e2]⟩ 1 0 _ 1 1 [e3] _ rfl hL1' hS1 (fun ad e _ => by cases e; have := hL1.lt; simp; omega) (Int.le_refl _) (by decide) (by decide) (by decide) (by decide) (Int.le_refl _)
  have hlaid : (⟨0, 0, [e1, e1, e2]⟩ : Lg).laid 1 [e3] 0 = ⟨0, 0, [e1, e3]⟩ := by rfl
  have hfit : (⟨0, 0, [e1, e1, e2]⟩ : Lg).fits 0 (1 + 1) [e3] = 0 := by rfl
  have hat : (⟨0, 0, [e1, e1, e2]⟩ : Lg).at 1 = 1 := by rfl
  rw [hlaid, hfit, hat] at M
  refine M.mono ?_
  rintro e w2 ⟨ch, rfl, hch, hL2, hk2⟩
  have hch' : ch = 2 := by simpa using hch
  subst hch'
  have hk02 : Keeps [] w w2 := (hk01.alloc _).step hk2 (by intro x hx; simp at hx; omega)
  clear hk2 hL1 hL1' hS1 hlaid hfit hat M hch
  go_wp2_with fail
  refine (llastt b ⟨0, 0, [e1, e3]⟩ w2 hL2 (Int.le_refl _) (by decide)).mono ?_
  rintro e w3 ⟨rfl, hk3⟩
  have hL3 := hL2.keep0 hk3
  have hla : (⟨0, 0, [e1, e3]⟩ : Lg).last = 2 := by rfl
  have hat : (⟨0, 0, [e1, e3]⟩ : Lg).at 2 = 3 := by rfl
  rw [hla, hat]
  go_wp2_with fail
  refine (lmerge_no b ⟨0, 0, [e1, e3]⟩ 7 1 0 2 none 0 0 w3 hL3 (by decide) (fun w h => by rw [← hla]; exact llacks_a b _ 7 1 w h (Int.le_refl _) (by decide) (by decide))).mono ?_
  rintro e w4 ⟨ev, rfl, hE, hne, hk4⟩
  have hk04 := (hk02.trans hk3).trans hk4
  go_wp2_with fail
  refine (class_any ev 52 w4 (hk04.cellSome hg (by simp)) hE).mono ?_
  rintro e w5 ⟨rfl, hk5⟩
  go_wp2_with fail
  go_ret
  exact ⟨rfl, hk04.trans hk5⟩
end Go.Proofs.YtahdclnflpkbcaaDoor
