/- RaftAhead: the walk. -/
import Derived.Test.YtdeaelbelcjhcaaDoorRaft41


namespace Go.Proofs.YtdeaelbelcjhcaaDoor
open Go.RowKit

theorem built_WA : Tryd.prog.built 49 [(0, .int .i64 2), (1, .int .i64 1), (2, .int .i64 0), (3, .int .u64 1), (9, .bool true)] = some (wmsg 1 1).toArray := by kernel_rfl

set_option maxRecDepth 100000 in
set_option maxHeartbeats 16000000 in
theorem ahead_any (x : Nat) (w : World) (hg : (w).cell? ⟨0, 0, none⟩ = some (.iface 116 (.agg #[.pointer (some ⟨1, 25, none⟩)]))) :
    Calls Tryd.prog 3 #[.int .u8 (x : Int)] w fun e w' => e = .returned (.bool true) ∧ Keeps [] w w' := by
  obtain ⟨a, ha⟩ : ∃ a : Nat, a = x % 80 := ⟨_, rfl⟩
  have r1 : (x : Int) % 80 = (a : Int) := by omega
  have r2 : IntKind.i64.wrap (a : Int) = (a : Int) := IntWalk.i64_in _ (by omega)
  have ha80 : a < 80 := by omega
  have HG := Lib.hid hg
  clear ha hg
  go_enter Tryd.func3, Tryd.ntmps3
  go_wp2_with fail
  refine (rknown w).mono ?_
  rintro e w0 ⟨rfl, hk0⟩
  go_wp2_with fail
  refine (lnew 0 0 none 0 0 [] w0 rfl (Sl.none _ _) (by simp)).mono ?_
  rintro e w2 ⟨lg, rfl, hlg, hL2, hk2⟩
  have hk02 := hk0.trans hk2
  go_wp2_with fail
  refine (rnewN 3 0 lg ⟨0, 0, []⟩ 0 w2 hL2 (by omega) (by omega)).mono ?_
  rintro e w3 ⟨b, rfl, hbw, hB3, hL3, hk3⟩
  have hk03 := hk02.trans hk3
  have hlN : w.heap.size ≤ lg := by have := hk0.size; omega
  have hbN : w.heap.size ≤ b := by have := hk02.size; omega
  have hW : TickSt w3 w.heap.size b lg 3 0 ⟨0, 0, []⟩ 0 := .inl ⟨by omega, hB3, hL3⟩
  clear hk2 hk0 hk02 hL2 hk3 hB3 hL3 hlg hbw
  go_wp2_with fail
  go_loopw [5] (fun i wr => ∃ j : Nat, i = .int .i64 (j : Int) ∧ j ≤ 10 ∧ TickSt wr w.heap.size b lg 3 0 ⟨0, 0, []⟩ j ∧ Keeps [] w wr) (fun i _ => 10 - (intOf i).toNat)
  case atStart => exact ⟨0, rfl, by omega, hW, hk03⟩
  case round =>
    obtain ⟨j, rfl, hj, hWj, hkj⟩ := hrel
    clear hW hk03
    by_cases hlt : j < 10
    · have q1 : IntKind.i64.wrap ((j : Int) + 1) = j + 1 := IntWalk.i64_in _ (by omega)
      have n3 : (j : Int) < 10 := by omega
      go_wp2_with fail
      refine (tickN_any w.heap.size b lg 3 0 ⟨0, 0, []⟩ j wr hWj hkj.size hlt (by omega) (by omega) (Int.le_refl _) (by decide) (by omega) (by omega)).mono ?_
      rintro e w3 ⟨⟨v, rfl⟩, hW3, hk3⟩
      go_wp2_with fail
      go_roundw
      case rel => exact ⟨j + 1, by simp, by omega, hW3, hkj.step hk3 (by intro x hx; simp at hx; right; omega)⟩
      case measure => simp [intOf]; omega
    · obtain rfl : j = 10 := by omega
      rcases hWj with ⟨h, _⟩ | ⟨_, vb, hvN, hCT⟩
      · omega
      clear hlt hj
      rw [show ((10 : Nat) : Int) = 10 from rfl]
      have HS := Lib.hid (lda_begin hCT)
      go_wp2_with (first | (refine wpList_built rfl 49 _ rfl _ _ built_WA rfl ?_) | (go_at_call 8; fail))
      refine HS.out.mono ?_
      rintro e w4 ⟨v, pb, rfl, hpw, hL4, hk4⟩
      clear HS hCT
      have hk04 := hkj.step hk4 (fun x hx => .inr (by simp at hx; omega))
      have hpN : w.heap.size ≤ pb := by have := hkj.size; omega
      clear hkj hk4 hpw
      have HR := Lib.hid (lda_role hL4)
      have HD := Lib.hid (lda_read 1 hL4 (by omega))
      go_wp2_with fail
      refine HR.out.mono ?_
      rintro e w' ⟨rfl, hw⟩
      obtain rfl := hw.symm
      clear hw HR
      go_wp2_with fail
      refine HD.out.mono ?_
      rintro e w5 ⟨gg, p, rfl, hE, hk5⟩
      clear HD
      have hL5 := hL4.keep hk5 (fun _ hx => by cases hx)
      have hk05 := hk04.trans hk5
      clear hL4 hk04 hk5
      have HC := Lib.hid (class_within gg 52 w5 (hk05.cellSome HG.out (by simp)) (by rw [hE.cell]; rfl))
      go_wp2_with fail
      refine HC.out.mono ?_
      rintro e w6 ⟨rfl, hb6⟩
      have hk6 : Keeps [] w5 w6 := Keeps.of_below hb6
      have hL6 := hL5.keep hk6 (fun _ hx => by cases hx)
      have hk06 := hk05.trans hk6
      clear hL5 hk05 hk6 hb6 HC hE
      go_wp2_with fail
      go_loopw [6] (fun i wr => ∃ q : Nat, i = .int .i64 (q : Int) ∧ q ≤ a ∧ LdAE wr b pb lg (min q 63) ∧ Keeps [] w wr) (fun i _ => 100 - (intOf i).toNat)
      case atStart => exact ⟨0, rfl, by omega, hL6, hk06⟩
      case round =>
        obtain ⟨q, rfl, hq, hLq, hkq⟩ := hrel
        clear hL6 hk06
        have q1 : IntKind.i64.wrap ((q : Int) + 1) = q + 1 := IntWalk.i64_in _ (by omega)
        by_cases hlt : q < a
        rotate_left
        · have n3 : ¬ ((q : Int) < (a : Int)) := by omega
          have HC := Lib.hid (lda_commit hLq)
          go_wp2_with fail
          refine HC.out.mono ?_
          rintro e w' ⟨rfl, hw⟩
          obtain rfl := hw.symm
          clear hw HC
          go_wp2_with fail
          go_ret
          exact ⟨rfl, hkq⟩
        have n3 : (q : Int) < (a : Int) := by omega
        have q2 : IntKind.u64.wrap (q : Int) = (q : Int) := IntWalk.u64_in _ (by omega)
        by_cases h63 : q < 63
        · rw [Nat.min_eq_left (by omega)] at hLq
          have n5 : ¬ ((64 : Int) ≤ (q : Int) + 1) := by omega
          have q3 : IntKind.i64.wrap ((q : Int) + 2) = q + 2 := IntWalk.i64_in _ (by omega)
          have q4 : IntKind.u64.wrap ((q : Int) + 2) = (q : Int) + 2 := IntWalk.u64_in _ (by omega)
          have HP := Lib.hid (lda_propose 1 (q : Int) ⟨#[120]⟩ hLq h63)
          have HQ := Lib.hid (And.intro hlt h63)
          clear h63 hlt
          go_wp2_with fail
          refine HP.out.mono ?_
          rintro e w7 ⟨⟨rr, rfl⟩, hL7, hk7⟩
          clear HP hLq
          have hk07 := hkq.step hk7 (fun x hx => .inr (by simp at hx; omega))
          simp only [Rf.out]
          go_upto_region 20 with (fail)
          have hka := (Keeps.refl [] w7).alloc (.cells rr.out 36)
          have hLa := hL7.keep hka (fun _ hx => by cases hx)
          have hk0a := hk07.trans hka
          simp only [Rf.out] at hLa hk0a
          generalize World.alloc w7 _ = w8 at *
          clear hka hL7 hk7 hk07
          go_wp2_with fail
          go_roundw
          case rel => exact ⟨q + 1, by simp, by have := HQ.out; omega, by rw [Nat.min_eq_left (by have := HQ.out; omega)]; exact hLa, hk0a⟩
          case measure => simp [intOf]; omega
        · rw [Nat.min_eq_right (by omega)] at hLq
          have n5 : (64 : Int) ≤ (q : Int) + 1 := by omega
          have HP := Lib.hid (lda_wait 1 (q : Int) ⟨#[120]⟩ hLq)
          have HQ := Lib.hid (And.intro hlt h63)
          clear h63 hlt
          go_wp2_with fail
          refine HP.out.mono ?_
          rintro e w7 ⟨gg, p, rfl, hE, hk7⟩
          clear HP
          go_upto_region 20 with (fail)
          have hka := hk7.alloc (.cells #[.slice none 0 0, .int .u64 0, .int .i64 0, .int .u64 0, .slice none 0 0, .slice none 0 0] 36)
          have hEa := hE.alloc (.cells #[.slice none 0 0, .int .u64 0, .int .i64 0, .int .u64 0, .slice none 0 0, .slice none 0 0] 36)
          have hLa := hLq.keep hka (fun _ hx => by cases hx)
          have hk0a := hkq.trans hka
          generalize World.alloc w7 _ = w8 at *
          clear hka hk7 hLq hkq hE
          have HC := Lib.hid (class_within gg 52 w8 (hk0a.cellSome HG.out (by simp)) (by rw [hEa.cell]; rfl))
          clear hEa
          go_wp2_with fail
          refine HC.out.mono ?_
          rintro e w9 ⟨rfl, hb9⟩
          have hk9 : Keeps [] w8 w9 := Keeps.of_below hb9
          have hL9 := hLa.keep hk9 (fun _ hx => by cases hx)
          have hk09 := hk0a.trans hk9
          clear HC hb9 hk9 hLa hk0a
          go_wp2_with fail
          go_roundw
          case rel => exact ⟨q + 1, by simp, by have := HQ.out; omega, by rw [Nat.min_eq_right (by have := HQ.out; omega)]; exact hL9, hk09⟩
          case measure => simp [intOf]; omega
end Go.Proofs.YtdeaelbelcjhcaaDoor
