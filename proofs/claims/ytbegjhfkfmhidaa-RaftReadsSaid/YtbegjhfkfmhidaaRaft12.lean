/- A node of raft that is alone: what is known of it, and the law. -/
import Derived.Test.YtbegjhfkfmhidaaRaft11
import Derived.Test.YtbegjhfkfmhidaaRead

namespace Go.Proofs.Ytbegjhfkfmhidaa
open Go.RowKit

theorem Lead.keep {w w' : World} {b lg pb : Nat} {tm rd cm : Int} (h : Lead w b lg pb tm rd cm) (hk : Keeps [] w w') : Lead w' b lg pb tm rd cm := by
  obtain ⟨r, g, nx, mt, ak, ao, c, hB, hP, hL, hh⟩ := h
  exact ⟨r, g, nx, mt, ak, ao, c, hB.keep hk (by simp), hP.keep hk (by simp), hL.keep0 hk, hh⟩
theorem Lead.lt {w : World} {b lg pb : Nat} {tm rd cm : Int} (h : Lead w b lg pb tm rd cm) : b < w.heap.size ∧ pb < w.heap.size ∧ lg < w.heap.size := by
  obtain ⟨r, g, nx, mt, ak, ao, c, hB, hP, hL, rfl, _⟩ := h
  exact ⟨hB.lt, hP.lt, hL.lt⟩

set_option maxRecDepth 100000 in
set_option maxHeartbeats 8000000 in
theorem rknown (w : World) :
    Calls Try.prog 7 #[] w fun e w' => e = .returned (.bool true) ∧ Keeps [] w w' := by
  go_enter Try.func7, Try.ntmps7
  go_wp2_with fail
  refine (lnew 0 0 none 0 0 [] w rfl (Sl.none _ _) (by simp)).mono ?_
  rintro e w1 ⟨lg, rfl, hlg, hL1, hk1⟩
  go_wp2_with fail
  refine (rnew1 0 lg 0 w1 hL1).mono ?_
  rintro e w2 ⟨b, rfl, hb, hB2, hL2, hk2⟩
  have hk02 := hk1.trans hk2
  have hbN : w.heap.size ≤ b := by have := hk1.size; omega
  have hW : Wait w.heap.size w2 b lg 0 10 0 := .inl ⟨by decide, hB2, hL2⟩
  clear hL1 hB2 hL2 hk1 hk2
  go_wp2_with fail
  go_loopw [3] (fun i wr => ∃ k : Nat, i = .int .i64 (k : Int) ∧ k ≤ 10 ∧ Wait w.heap.size wr b lg 0 10 k ∧ Keeps [] w wr) (fun i _ => 10 - (intOf i).toNat)
  case atStart => exact ⟨0, rfl, by omega, hW, hk02⟩
  case round =>
    obtain ⟨k, rfl, hk, hWk, hkk⟩ := hrel
    clear hW hk02
    by_cases hlt : k < 10
    · have q1 : IntKind.i64.wrap ((k : Int) + 1) = k + 1 := IntWalk.i64_in _ (by omega)
      go_wp2_with fail
      refine (tick_any w.heap.size b lg 0 10 k 0 wr hWk hkk.size (by omega) (by omega) (by omega) (by omega) (by omega)).mono ?_
      rintro e w3 ⟨⟨v, rfl⟩, hW3, hk3⟩
      go_wp2_with fail
      go_roundw
      case rel => exact ⟨k + 1, rfl, by omega, hW3, hkk.step hk3 (by intro x hx; simp at hx; right; omega)⟩
      case measure => simp [intOf]; omega
    · obtain rfl : k = 10 := by omega
      rcases hWk with ⟨h, _⟩ | ⟨_, pb, hpb, hLd⟩
      · omega
      go_wp2_with fail
      refine (lead_propose 1 1 ⟨#[120]⟩ hLd (by omega)).mono ?_
      rintro e w3 ⟨⟨y1, y2, n1, n2, n3, p1, p2, p3, rfl⟩, hLd3, hk3⟩
      have hk03 : Keeps [] w w3 := hkk.step hk3 (by intro x hx; simp at hx; right; omega)
      go_upto_region 9 with (fail)
      have hX := Blk.fresh w3 39 #[.slice none 0 0, .int .u64 y1, .int .i64 y2, .int .u64 2, .slice n1 n2 n3, .slice p1 p2 p3]
      have hka := (Keeps.refl [] w3).alloc (.cells #[.slice none 0 0, .int .u64 y1, .int .i64 y2, .int .u64 2, .slice n1 n2 n3, .slice p1 p2 p3] 39)
      have hLd4 := hLd3.keep hka
      have hk04 := hk03.trans hka
      generalize World.alloc w3 _ = w4 at *
      generalize w3.heap.size = xb at *
      have hcX := hX.cell
      have hlX := hX.lt
      have HL := Lib.hid hLd4
      go_wp2_with fail
      refine (lead_role HL.out).mono ?_
      rintro e w' ⟨rfl, rfl⟩
      go_wp2_with fail
      refine (lead_term HL.out).mono ?_
      rintro e w' ⟨rfl, rfl⟩
      go_wp2_with fail
      refine (lead_commit HL.out).mono ?_
      rintro e w' ⟨rfl, rfl⟩
      go_wp2_with fail
      go_ret
      exact ⟨rfl, hk04⟩

/-- a slice of truths that came in -/
def BoolsAt (w : World) (la : Option Addr) (ll : Nat) (zs : Nat → Bool) : Prop := ∀ i, i < ll → ∃ b off, la = some ⟨b, off, none⟩ ∧ w.cell? ⟨b, off + i, none⟩ = some (.bool (zs i))

theorem BoolsAt.of {H : Type} {enc : TypeId × Value → H} {w : World} {a : Option Addr} {len cap : Nat} (h : Rd enc w 22 [.slice a len cap]) : ∃ zs, BoolsAt w a len zs := by
  obtain ⟨a', len', cap', he, _, _, hi⟩ := h.slice Try.underlying22 (size := 1) (by kernel_rfl) (by decide)
  simp only [List.cons.injEq, Value.slice.injEq, and_true] at he
  obtain ⟨rfl, rfl, rfl⟩ := he
  have hz : ∀ i, ∃ z : Bool, i < len → ∃ b off, a = some ⟨b, off, none⟩ ∧ w.cell? ⟨b, off + i, none⟩ = some (.bool z) := by
    intro i
    by_cases hl : i < len
    · obtain ⟨b, o, ha, cs', _, hat, hr⟩ := hi i hl
      obtain ⟨m, rfl⟩ := hr.bool Try.underlying4
      exact ⟨m, fun _ => ⟨b, o, ha, by have := hat 0 (.bool m) rfl; simpa using this⟩⟩
    · exact ⟨false, fun h => absurd h hl⟩
  exact ⟨fun i => Classical.choose (hz i), fun i hl => Classical.choose_spec (hz i) hl⟩

set_option maxRecDepth 100000 in
set_option maxHeartbeats 8000000 in
theorem alone_any (d : Int) (la : Option Addr) (ll lc : Nat) (zs : Nat → Bool) (w : World) (hz : BoolsAt w la ll zs) :
    Calls Try.prog 3 #[.int .i64 d, .slice la ll lc] w fun e w' => e = .returned (.bool true) ∧ Keeps [] w w' := by
  have HZ := Lib.hid hz
  clear hz
  obtain ⟨t0, t1⟩ := tmod20 d
  have u0 : 0 ≤ (d.tmod 20 + 20).tmod 20 := Int.tmod_nonneg _ (by omega)
  have u1 : (d.tmod 20 + 20).tmod 20 < 20 := Int.tmod_lt_of_pos _ (by omega)
  have q1 : IntKind.i64.wrap (d.tmod 20) = d.tmod 20 := IntWalk.i64_in _ (by omega)
  have q2 : IntKind.i64.wrap (d.tmod 20 + 20) = d.tmod 20 + 20 := IntWalk.i64_in _ (by omega)
  have q3 : IntKind.i64.wrap ((d.tmod 20 + 20).tmod 20) = (d.tmod 20 + 20).tmod 20 := IntWalk.i64_in _ (by omega)
  have q4 : IntKind.i64.wrap (10 + (d.tmod 20 + 20).tmod 20) = 10 + (d.tmod 20 + 20).tmod 20 := IntWalk.i64_in _ (by omega)
  have T0 : 10 ≤ 10 + d.tmod 20 % 20 := by omega
  have T1 : 10 + d.tmod 20 % 20 < 30 := by omega
  go_enter Try.func3, Try.ntmps3
  go_wp2_with fail
  refine (rknown w).mono ?_
  rintro e w0 ⟨rfl, hk0⟩
  by_cases h1 : 60 < ll
  · go_wp2_with fail
    go_ret
    exact ⟨rfl, hk0⟩
  have n1 : decide ((60 : Int) < (ll : Int)) = false := by simp; omega
  have n2 : ¬ ((60 : Int) < (ll : Int)) := by omega
  go_wp2_with fail
  refine (lnew 0 0 none 0 0 [] w0 rfl (Sl.none _ _) (by simp)).mono ?_
  rintro e w1 ⟨lg, rfl, hlg, hL1, hk1⟩
  go_wp2_with fail
  have N := rnew1 4 lg d w1 hL1
  refine N.mono ?_
  rintro e w2 ⟨b, rfl, hb, hB2, hL2, hk2⟩
  have hk02 := (hk0.trans hk1).trans hk2
  have hlN : w.heap.size ≤ lg := by have := hk0.size; omega
  have hbN : w.heap.size ≤ b := by have := hk0.size; have := hk1.size; omega
  clear N
  go_wp2_with fail
  rw [show (d.tmod 20 + 20) % 20 = d.tmod 20 % 20 by omega]
  generalize 10 + d.tmod 20 % 20 = T at *
  have hW : Wait w.heap.size w2 b lg 4 T 0 := .inl ⟨by omega, hB2, hL2⟩
  clear hL1 hB2 hL2 hk0 hk1 hk2 t0 t1 u0 u1 q1 q2 q3 q4
  go_loopw [9] (fun i wr => ∃ k : Nat, i = .int .i64 ((k : Int) + 1) ∧ (k : Int) ≤ T ∧ Wait w.heap.size wr b lg 4 T k ∧ Keeps [] w wr) (fun i _ => 40 - (intOf i).toNat)
  case atStart => exact ⟨0, rfl, by omega, hW, hk02⟩
  case round =>
    obtain ⟨k, rfl, hk, hWk, hkk⟩ := hrel
    clear hW hk02
    by_cases hlt : (k : Int) < T
    · have s1 : IntKind.i64.wrap ((k : Int) + 1 + 1) = k + 1 + 1 := IntWalk.i64_in _ (by omega)
      have s2 : (k : Int) + 1 ≤ T := by omega
      have hB0 : Blk wr b 71 (alone 4 lg k T).cells := by rcases hWk with ⟨_, h, _⟩ | ⟨h, _⟩ <;> first | exact h | omega
      go_wp2_with fail
      refine (rrole b _ wr hB0).mono ?_
      rintro e w' ⟨rfl, rfl⟩
      simp only [alone]
      go_wp2_with fail
      refine (rterm b _ _ hB0).mono ?_
      rintro e w' ⟨rfl, rfl⟩
      simp only [alone]
      go_wp2_with fail
      refine (tick_any w.heap.size b lg 4 T k 0 _ hWk hkk.size (by omega) (by omega) (by omega) (by omega) (by omega)).mono ?_
      rintro e w3 ⟨⟨v, rfl⟩, hW3, hk3⟩
      go_wp2_with fail
      go_roundw
      case rel => exact ⟨k + 1, by simp, by omega, hW3, hkk.step hk3 (by intro x hx; simp at hx; right; omega)⟩
      case measure => simp [intOf]; omega
    · have s2 : ¬ ((k : Int) + 1 ≤ T) := by omega
      rcases hWk with ⟨h, _⟩ | ⟨_, pb, hpb, hLd⟩
      · omega
      clear hlt
      have HL := Lib.hid hLd
      clear hLd
      go_wp2_with fail
      refine (lead_role HL.out).mono ?_
      rintro e w' ⟨rfl, rfl⟩
      go_wp2_with fail
      refine (lead_term HL.out).mono ?_
      rintro e w' ⟨rfl, rfl⟩
      go_wp2_with fail
      refine (lead_commit HL.out).mono ?_
      rintro e w' ⟨rfl, rfl⟩
      go_wp2_with fail
      refine (lead_leader HL.out).mono ?_
      rintro e w' ⟨rfl, rfl⟩
      go_wp2_with fail
      have hLd := HL.out
      clear HL
      have hw : ∀ x, x ∈ [b, pb, lg] → w.heap.size ≤ x := by intro x hx; simp at hx; omega
      clear hk s2 n1 n2 hpb
      go_loopw [10, 11] (fun v i wx => ∃ (k : Nat) (cm rd : Int), i = .int .i64 (k : Int) ∧ v = .int .u64 cm ∧ k ≤ ll ∧ 1 ≤ cm ∧ cm ≤ 1 + k ∧ 1 ≤ rd ∧ rd ≤ 1 + k ∧ Lead wx b lg pb 5 rd cm ∧ Keeps [] w wx) (fun _ i _ => ll - (intOf i).toNat)
      case atStart => exact ⟨0, 1, 1, rfl, rfl, by omega, by omega, by omega, by omega, by omega, hLd, hkk⟩
      case round =>
        obtain ⟨k, cm, rd, rfl, rfl, hk, hc0, hc1, hr0, hr1, hLr, hkr⟩ := hrel
        clear hLd hkk
        by_cases hlt : k < ll
        · obtain ⟨zb, zo, rfl, hcell⟩ := HZ.out k hlt
          have hcell' := hkr.cellSome hcell (by simp)
          clear hcell
          have s1 : IntKind.i64.wrap ((k : Int) + 1) = k + 1 := IntWalk.i64_in _ (by omega)
          have s2 : IntKind.u64.wrap (cm + 1) = cm + 1 := IntWalk.u64_in _ (by omega)
          have s3 : IntKind.u64.wrap (k : Int) = k := IntWalk.u64_in _ (by omega)
          generalize zs k = z at *
          cases z
          · go_upto_region 27 with (fail)
            clear hcell'
            go_wp2_with fail
            refine (lead_read (k : Int) hLr (by omega) (by omega) (by omega) (by omega)).mono ?_
            rintro e w5 ⟨⟨m1, m2, m3, y1, y2, y3, a1, c1, p1, p2, p3, rfl, hS5⟩, hL5, hk5⟩
            have hk05 : Keeps [] w w5 := hkr.step hk5 (by intro x hx; right; exact hw x (by simp at hx ⊢; omega))
            clear hLr hkr hk5
            go_upto_region 28 with (fail)
            have hX := Blk.fresh w5 39 #[.slice m1 m2 m3, .int .u64 y1, .int .i64 y2, .int .u64 y3, .slice a1 1 c1, .slice p1 p2 p3]
            have hka := (Keeps.refl [] w5).alloc (.cells #[.slice m1 m2 m3, .int .u64 y1, .int .i64 y2, .int .u64 y3, .slice a1 1 c1, .slice p1 p2 p3] 39)
            have hL6 := hL5.keep hka
            have hS6 := hS5.keep0 hka
            have hk06 := hk05.trans hka
            generalize World.alloc w5 _ = w6 at *
            generalize w5.heap.size = xb at *
            clear hL5 hS5 hk05 hka
            obtain ⟨rb, ro, rfl⟩ := hS6.at (by have := hS6.cap; omega)
            have e0 := hS6.cell _ rfl 0 _ rfl
            have e1 := hS6.cell _ rfl 1 _ rfl
            simp only [Nat.add_zero] at e0
            have hcX := hX.cell
            have hlX := hX.lt
            have hrl : rb < w6.heap.size := hS6.lt rfl (by simp)
            go_wp2_with fail
            go_roundw
            case rel => exact ⟨k + 1, cm, rd + 1, by simp, rfl, by omega, by omega, by omega, by omega, by omega, hL6, hk06⟩
            case measure => simp [intOf]; omega
          · go_upto_region 24 with (fail)
            clear hcell'
            go_wp2_with fail
            refine (lead_propose 1 (k : Int) ⟨#[120]⟩ hLr (by omega)).mono ?_
            rintro e w5 ⟨⟨y1, y2, n1, n2, n3, p1, p2, p3, rfl⟩, hL5, hk5⟩
            have hk05 : Keeps [] w w5 := hkr.step hk5 (by intro x hx; right; exact hw x (by simpa using hx))
            clear hLr hkr hk5
            go_upto_region 25 with (fail)
            have hX := Blk.fresh w5 39 #[.slice none 0 0, .int .u64 y1, .int .i64 y2, .int .u64 (cm + 1), .slice n1 n2 n3, .slice p1 p2 p3]
            have hka := (Keeps.refl [] w5).alloc (.cells #[.slice none 0 0, .int .u64 y1, .int .i64 y2, .int .u64 (cm + 1), .slice n1 n2 n3, .slice p1 p2 p3] 39)
            have HL := Lib.hid (hL5.keep hka)
            have hk06 := hk05.trans hka
            generalize World.alloc w5 _ = w6 at *
            generalize w5.heap.size = xb at *
            clear hL5 hk05 hka
            have hcX := hX.cell
            have hlX := hX.lt
            go_wp2_with fail
            refine (lead_commit HL.out).mono ?_
            rintro e w' ⟨rfl, rfl⟩
            go_wp2_with fail
            go_roundw
            case rel => exact ⟨k + 1, cm + 1, rd, by simp, rfl, by omega, by omega, by omega, by omega, by omega, HL.out, hk06⟩
            case measure => simp [intOf]; omega
        · go_wp2_with fail
          go_ret
          exact ⟨rfl, hkr⟩
end Go.Proofs.Ytbegjhfkfmhidaa
