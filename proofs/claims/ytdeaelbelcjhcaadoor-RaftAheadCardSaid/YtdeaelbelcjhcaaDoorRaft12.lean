/- A node of raft that is alone: what is known of it, and the law. -/
import Derived.Test.YtdeaelbelcjhcaaDoorRaft11
import Derived.Test.YtdeaelbelcjhcaaDoorRead

namespace Go.Proofs.YtdeaelbelcjhcaaDoor
open Go.RowKit

theorem Lead.keep {w w' : World} {b lg pb : Nat} {tm rd cm : Int} (h : Lead w b lg pb tm rd cm) (hk : Keeps [] w w') : Lead w' b lg pb tm rd cm := by
  obtain ⟨r, g, nx, mt, ak, ao, c, hB, hP, hL, hh⟩ := h
  exact ⟨r, g, nx, mt, ak, ao, c, hB.keep hk (by simp), hP.keep hk (by simp), hL.keep0 hk, hh⟩
theorem Lead.lt {w : World} {b lg pb : Nat} {tm rd cm : Int} (h : Lead w b lg pb tm rd cm) : b < w.heap.size ∧ pb < w.heap.size ∧ lg < w.heap.size := by
  obtain ⟨r, g, nx, mt, ak, ao, c, hB, hP, hL, rfl, _⟩ := h
  exact ⟨hB.lt, hP.lt, hL.lt⟩

set_option maxRecDepth 100000 in
set_option maxHeartbeats 8000000 in
theorem rknown (w : World) :
    Calls Tryd.prog 4 #[] w fun e w' => e = .returned (.bool true) ∧ Keeps [] w w' := by
  go_enter Tryd.func4, Tryd.ntmps4
  go_wp2_with fail
  refine (lnew 0 0 none 0 0 [] w rfl (Sl.none _ _) (by simp)).mono ?_
  rintro e w1 ⟨lg, rfl, hlg, hL1, hk1⟩
  go_wp2_with fail
  refine (rnew1 0 lg 0 w1 hL1).mono ?_
  rintro e w2 ⟨b, rfl, hb, hB2, hL2, hk2⟩
  have hk02 := hk1.trans hk2
  have hbN : w.heap.size ≤ b := by have := hk1.size; omega
  have hW : Wait w.heap.size w2 b lg 0 10 0 := .inl ⟨by decide, hB2, hL2⟩
  clear hL1 hB2 hL2 hk1 hk2
  go_wp2_with fail
  go_loopw [3] (fun i wr => ∃ k : Nat, i = .int .i64 (k : Int) ∧ k ≤ 10 ∧ Wait w.heap.size wr b lg 0 10 k ∧ Keeps [] w wr) (fun i _ => 10 - (intOf i).toNat)
  case atStart => exact ⟨0, rfl, by omega, hW, hk02⟩
  case round =>
    obtain ⟨k, rfl, hk, hWk, hkk⟩ := hrel
    clear hW hk02
    by_cases hlt : k < 10
    · have q1 : IntKind.i64.wrap ((k : Int) + 1) = k + 1 := IntWalk.i64_in _ (by omega)
      go_wp2_with fail
      refine (tick_any w.heap.size b lg 0 10 k 0 wr hWk hkk.size (by omega) (by omega) (by omega) (by omega) (by omega)).mono ?_
      rintro e w3 ⟨⟨v, rfl⟩, hW3, hk3⟩
      go_wp2_with fail
      go_roundw
      case rel => exact ⟨k + 1, rfl, by omega, hW3, hkk.step hk3 (by intro x hx; simp at hx; right; omega)⟩
      case measure => simp [intOf]; omega
    · obtain rfl : k = 10 := by omega
      rcases hWk with ⟨h, _⟩ | ⟨_, pb, hpb, hLd⟩
      · omega
      go_wp2_with fail
      refine (lead_propose 1 1 ⟨#[120]⟩ hLd (by omega)).mono ?_
      rintro e w3 ⟨⟨y1, y2, n1, n2, n3, p1, p2, p3, rfl⟩, hLd3, hk3⟩
      have hk03 : Keeps [] w w3 := hkk.step hk3 (by intro x hx; simp at hx; right; omega)
      go_upto_region 9 with (fail)
      have hX := Blk.fresh w3 36 #[.slice none 0 0, .int .u64 y1, .int .i64 y2, .int .u64 2, .slice n1 n2 n3, .slice p1 p2 p3]
      have hka := (Keeps.refl [] w3).alloc (.cells #[.slice none 0 0, .int .u64 y1, .int .i64 y2, .int .u64 2, .slice n1 n2 n3, .slice p1 p2 p3] 36)
      have hLd4 := hLd3.keep hka
      have hk04 := hk03.trans hka
      generalize World.alloc w3 _ = w4 at *
      generalize w3.heap.size = xb at *
      have hcX := hX.cell
      have hlX := hX.lt
      have HL := Lib.hid hLd4
      go_wp2_with fail
      refine (lead_role HL.out).mono ?_
      rintro e w' ⟨rfl, rfl⟩
      go_wp2_with fail
      refine (lead_term HL.out).mono ?_
      rintro e w' ⟨rfl, rfl⟩
      go_wp2_with fail
      refine (lead_commit HL.out).mono ?_
      rintro e w' ⟨rfl, rfl⟩
      go_wp2_with fail
      go_ret
      exact ⟨rfl, hk04⟩

/-- a slice of truths that came in -/
def BoolsAt (w : World) (la : Option Addr) (ll : Nat) (zs : Nat → Bool) : Prop := ∀ i, i < ll → ∃ b off, la = some ⟨b, off, none⟩ ∧ w.cell? ⟨b, off + i, none⟩ = some (.bool (zs i))

theorem BoolsAt.of {H : Type} {enc : TypeId × Value → H} {w : World} {a : Option Addr} {len cap : Nat} (h : Rd enc w 59 [.slice a len cap]) : ∃ zs, BoolsAt w a len zs := by
  obtain ⟨a', len', cap', he, _, _, hi⟩ := h.slice Tryd.underlying59 (size := 1) (by kernel_rfl) (by decide)
  simp only [List.cons.injEq, Value.slice.injEq, and_true] at he
  obtain ⟨rfl, rfl, rfl⟩ := he
  have hz : ∀ i, ∃ z : Bool, i < len → ∃ b off, a = some ⟨b, off, none⟩ ∧ w.cell? ⟨b, off + i, none⟩ = some (.bool z) := by
    intro i
    by_cases hl : i < len
    · obtain ⟨b, o, ha, cs', _, hat, hr⟩ := hi i hl
      obtain ⟨m, rfl⟩ := hr.bool Tryd.underlying4
      exact ⟨m, fun _ => ⟨b, o, ha, by have := hat 0 (.bool m) rfl; simpa using this⟩⟩
    · exact ⟨false, fun h => absurd h hl⟩
  exact ⟨fun i => Classical.choose (hz i), fun i hl => Classical.choose_spec (hz i) hl⟩

end Go.Proofs.YtdeaelbelcjhcaaDoor
