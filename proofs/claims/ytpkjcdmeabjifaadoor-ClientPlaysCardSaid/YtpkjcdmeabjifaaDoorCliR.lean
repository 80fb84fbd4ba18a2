/- ClientRounds: the walk. -/
import Derived.Test.YtpkjcdmeabjifaaDoorCliK
import Derived.Test.YtpkjcdmeabjifaaDoorCli7

namespace Go.Proofs.YtpkjcdmeabjifaaDoor
open Go.RowKit

theorem target_same (b : Nat) (num n tgt seq : Int) (sql : ByteArray) (wt : Bool) (tk rs rc : Int) (cols rows : Option Addr × Nat × Nat) (cnt idx : Int) (sm : Bool) (w : World) (hB : Blk w b 73 #[.int .i64 (num), .int .i64 (n), .int .i64 (tgt), .int .u64 (seq), .string (sql), .bool (wt), .int .i64 (tk), .int .u64 (rs), .int .i64 (rc), .slice (cols).1 (cols).2.1 (cols).2.2, .slice (rows).1 (rows).2.1 (rows).2.2, .int .i64 (cnt), .int .u64 (idx), .bool (sm)]) :
    Calls Tryd.prog 10 #[.pointer (some ⟨b, 0, none⟩)] w fun e w' => e = .returned (.int .i64 tgt) ∧ w' = w :=
  (target_any b num n tgt seq sql wt tk rs rc cols rows cnt idx sm w hB).mono fun _ _ h => ⟨h.1, h.2.symm⟩

set_option maxRecDepth 100000 in
set_option maxHeartbeats 4000000 in
theorem rounds_any (num n ticks asks : Int) (w : World) (hg : (w).cell? ⟨0, 0, none⟩ = some (.iface 100 (.agg #[.pointer (some ⟨1, 26, none⟩)])))
    (hnum : 0 ≤ num) (hnum' : num ≤ 255) (hn : 0 ≤ n) (hn' : n ≤ 255) (ht : 0 ≤ ticks) (ht' : ticks ≤ 255) (ha : 0 ≤ asks) (ha' : asks ≤ 255) :
    Calls Tryd.prog 4 #[.int .u8 num, .int .u8 n, .int .u8 ticks, .int .u8 asks] w fun e w' => e = .returned (.bool true) ∧ Keeps [] w w' := by
  go_enter Tryd.func4, Tryd.ntmps4
  go_wp2_with fail
  refine (known_any w hg).mono ?_
  rintro e w1 ⟨rfl, hk1⟩
  go_wp2_with fail
  refine (new_ok (num % 8) (n % 7 + 1) _ (by omega) (by omega) (by omega) (by omega)).mono ?_
  rintro e w2 ⟨b, rfl, hb, hB2, hk2⟩
  have hk02 := hk1.trans hk2
  have hbw : w.heap.size ≤ b := by have := hk1.size; omega
  clear hk1 hk2 hg
  go_wp2_with fail
  go_loopw [13] (fun kk wr => ∃ (k : Nat) (tgt tk rs rc idx : Int) (sql : ByteArray) (sm : Bool), 1 ≤ k ∧ (k : Int) ≤ asks % 5 + 2 ∧ kk = .int .i64 (k : Int) ∧ 0 ≤ tgt ∧ tgt < n % 7 + 1 ∧ Blk wr b 73 #[.int .i64 (num % 8), .int .i64 (n % 7 + 1), .int .i64 (tgt), .int .u64 ((k : Int) - 1), .string (sql), .bool (false), .int .i64 (tk), .int .u64 (rs), .int .i64 (rc), .slice (nilS).1 (nilS).2.1 (nilS).2.2, .slice (nilS).1 (nilS).2.1 (nilS).2.2, .int .i64 (0), .int .u64 (idx), .bool (sm)] ∧ Keeps [] w wr) (fun kk _ => 10 - (intOf kk).toNat)
  case atStart => exact ⟨1, _, 0, 0, 0, 0, _, _, by omega, by omega, rfl, Int.emod_nonneg _ (by omega), Int.emod_lt_of_pos _ (by omega), hB2, hk02⟩
  case round =>
    obtain ⟨k, tgt, tk, rs, rc, idx, sql, sm, hk1, hk2, rfl, hg0, hg1, hBk, hkk⟩ := hrel
    clear hB2 hk02
    by_cases hlt : (k : Int) ≤ asks % 5 + 1
    · go_wp2_with fail
      refine (ask_ok b _ _ _ _ _ _ _ _ _ nilS nilS _ _ _ _ _ (by omega) (by omega) (by decide) (by omega) (by omega) rfl hBk).mono ?_
      rintro e w3 ⟨rfl, hB3, hk3⟩
      have hkk3 := hkk.step hk3 (by simpa using hbw)
      have ek : (k : Int) - 1 + 1 = k := by omega
      rw [ek] at hB3
      clear hBk hkk hk3
      simp only [ek]
      clear ek
      go_wp2_with (refine wpList_store_fresh rfl rfl _ _ _ rfl _ rfl rfl _ rfl _ _ Tryd.sizeM (by simp) rfl ?_)
      have hB4 := hB3.alloc (.cells #[.int .i64 7, .int .i64 (100 + num % 8), .int .i64 (tgt), .int .u64 0, .int .u64 0, .int .u64 0, .slice none 0 0, .int .u64 0, .int .u64 0, .bool false, .int .i64 0, .slice none 0 0, .bool false, .int .u64 (num % 8 + 1), .int .u64 ((k : Int)), .string (⟨#[113]⟩), .int .u64 0, .int .i64 0, .slice none 0 0, .slice none 0 0, .int .i64 0, .int .u64 0, .int .i64 0] 40)
      have hc4 := (Blk.fresh w3 40 #[.int .i64 7, .int .i64 (100 + num % 8), .int .i64 (tgt), .int .u64 0, .int .u64 0, .int .u64 0, .slice none 0 0, .int .u64 0, .int .u64 0, .bool false, .int .i64 0, .slice none 0 0, .bool false, .int .u64 (num % 8 + 1), .int .u64 ((k : Int)), .string (⟨#[113]⟩), .int .u64 0, .int .i64 0, .slice none 0 0, .slice none 0 0, .int .i64 0, .int .u64 0, .int .i64 0]).cell
      have ku : IntKind.u64.wrap (k : Int) = k := IntWalk.u64_in _ (by omega)
      go_quiet ((go_at_call 10; exact Calls.quiet_of_same (target_same b _ _ _ _ _ _ _ _ _ nilS nilS _ _ _ _ (Blk.drewN hB4 _))))
      replace hB4 := hB4.drewN nq
      have hkk4 := (hkk3.alloc (.cells #[.int .i64 7, .int .i64 (100 + num % 8), .int .i64 (tgt), .int .u64 0, .int .u64 0, .int .u64 0, .slice none 0 0, .int .u64 0, .int .u64 0, .bool false, .int .i64 0, .slice none 0 0, .bool false, .int .u64 (num % 8 + 1), .int .u64 ((k : Int)), .string (⟨#[113]⟩), .int .u64 0, .int .i64 0, .slice none 0 0, .slice none 0 0, .int .i64 0, .int .u64 0, .int .i64 0] 40)).drewN nq
      clear hc4 hB3 hkk3 ku
      go_wp2_with fail
      go_loopw [16, 17] (fun to tt wi => ∃ (t : Nat) (tg : Int), 1 ≤ t ∧ (t : Int) ≤ ticks + 1 ∧ tt = .int .i64 (t : Int) ∧ to = .int .i64 tg ∧ 0 ≤ tg ∧ tg < n % 7 + 1 ∧ Blk wi b 73 #[.int .i64 (num % 8), .int .i64 (n % 7 + 1), .int .i64 (tg), .int .u64 ((k : Int)), .string (⟨#[113]⟩), .bool (true), .int .i64 (((t : Int) - 1) % 15), .int .u64 (rs), .int .i64 (rc), .slice (nilS).1 (nilS).2.1 (nilS).2.2, .slice (nilS).1 (nilS).2.1 (nilS).2.2, .int .i64 (0), .int .u64 (idx), .bool (sm)] ∧ Keeps [] w wi) (fun _ tt _ => 300 - (intOf tt).toNat)
      case atStart => exact ⟨1, tgt, by omega, by omega, rfl, rfl, hg0, hg1, hB4, hkk4⟩
      case round =>
        obtain ⟨t, tg, ht1, ht2, rfl, rfl, htg0, htg1, hBt, hkt⟩ := hrel
        clear hB4 hkk4
        by_cases hin : (t : Int) ≤ ticks
        · by_cases hz : (t : Int) % 15 = 0
          · have e14 : ((t : Int) - 1) % 15 = 14 := by omega
            go_wp2_with fail
            refine (tick_turn b _ _ _ _ _ _ _ _ _ nilS nilS _ _ _ _ (by omega) (by omega) (by omega) (by omega) htg0 (by omega) rfl e14 hBt).mono ?_
            rintro e w5 ⟨rfl, hB5, hk5⟩
            have hkk5 := (hkt.step hk5 (by simpa using hbw)).alloc (.cells #[.int .i64 7, .int .i64 (100 + num % 8), .int .i64 ((tg + 1) % (n % 7 + 1)), .int .u64 0, .int .u64 0, .int .u64 0, .slice none 0 0, .int .u64 0, .int .u64 0, .bool false, .int .i64 0, .slice none 0 0, .bool false, .int .u64 (num % 8 + 1), .int .u64 ((k : Int)), .string (⟨#[113]⟩), .int .u64 0, .int .i64 0, .slice none 0 0, .slice none 0 0, .int .i64 0, .int .u64 0, .int .i64 0] 40)
            replace hB5 := hB5.alloc (.cells #[.int .i64 7, .int .i64 (100 + num % 8), .int .i64 ((tg + 1) % (n % 7 + 1)), .int .u64 0, .int .u64 0, .int .u64 0, .slice none 0 0, .int .u64 0, .int .u64 0, .bool false, .int .i64 0, .slice none 0 0, .bool false, .int .u64 (num % 8 + 1), .int .u64 ((k : Int)), .string (⟨#[113]⟩), .int .u64 0, .int .i64 0, .slice none 0 0, .slice none 0 0, .int .i64 0, .int .u64 0, .int .i64 0] 40)
            have hc5 := (Blk.fresh w5 40 #[.int .i64 7, .int .i64 (100 + num % 8), .int .i64 ((tg + 1) % (n % 7 + 1)), .int .u64 0, .int .u64 0, .int .u64 0, .slice none 0 0, .int .u64 0, .int .u64 0, .bool false, .int .i64 0, .slice none 0 0, .bool false, .int .u64 (num % 8 + 1), .int .u64 ((k : Int)), .string (⟨#[113]⟩), .int .u64 0, .int .i64 0, .slice none 0 0, .slice none 0 0, .int .i64 0, .int .u64 0, .int .i64 0]).cell
            have hl5 := (Blk.fresh w5 40 #[.int .i64 7, .int .i64 (100 + num % 8), .int .i64 ((tg + 1) % (n % 7 + 1)), .int .u64 0, .int .u64 0, .int .u64 0, .slice none 0 0, .int .u64 0, .int .u64 0, .bool false, .int .i64 0, .slice none 0 0, .bool false, .int .u64 (num % 8 + 1), .int .u64 ((k : Int)), .string (⟨#[113]⟩), .int .u64 0, .int .i64 0, .slice none 0 0, .slice none 0 0, .int .i64 0, .int .u64 0, .int .i64 0]).lt
            clear hBt hkt hk5 e14
            go_wp2_with (refine wpList_store_fresh rfl rfl _ _ _ rfl _ rfl rfl _ rfl _ _ Tryd.sizeM (by simp) rfl ?_)
            have q1 : ((t : Int)).tmod 15 = 0 := by rw [Int.tmod_eq_emod_of_nonneg (by omega)]; exact hz
            have q2 : IntKind.i64.wrap (tg + 1) = tg + 1 := IntWalk.i64_in _ (by omega)
            have q3 : (tg + 1).tmod (n % 7 + 1) = (tg + 1) % (n % 7 + 1) := Int.tmod_eq_emod_of_nonneg (by omega)
            have ku : IntKind.u64.wrap (k : Int) = k := IntWalk.u64_in _ (by omega)
            go_quiet (fail)
            clear q1 q2 q3 ku
            go_wp2
            have et : ((t + 1 : Nat) : Int) - 1 = t := by omega
            go_roundw
            case rel => exact ⟨t + 1, _, by omega, by omega, by go_num, rfl, Int.emod_nonneg _ (by omega), Int.emod_lt_of_pos _ (by omega), Blk.eq (hB5.drewN _) (by rw [et, hz]), hkk5.drewN _⟩
            case measure => simp [intOf]; omega
          · have hle : ((t : Int) - 1) % 15 < 14 := by omega
            have hge : 0 ≤ ((t : Int) - 1) % 15 := by omega
            have e15 : ((t : Int) - 1) % 15 + 1 = (t : Int) % 15 := by omega
            go_wp2_with fail
            refine (tick_wait b _ _ _ _ _ _ _ _ _ nilS nilS _ _ _ _ rfl hge hle hBt).mono ?_
            rintro e w5 ⟨rfl, hB5, hk5⟩
            have hkk5 := (hkt.step hk5 (by simpa using hbw)).alloc (.cells #[.int .i64 0, .int .i64 0, .int .i64 0, .int .u64 0, .int .u64 0, .int .u64 0, .slice none 0 0, .int .u64 0, .int .u64 0, .bool false, .int .i64 0, .slice none 0 0, .bool false, .int .u64 0, .int .u64 0, .string ⟨#[]⟩, .int .u64 0, .int .i64 0, .slice none 0 0, .slice none 0 0, .int .i64 0, .int .u64 0, .int .i64 0] 40)
            rw [e15] at hB5
            replace hB5 := hB5.alloc (.cells #[.int .i64 0, .int .i64 0, .int .i64 0, .int .u64 0, .int .u64 0, .int .u64 0, .slice none 0 0, .int .u64 0, .int .u64 0, .bool false, .int .i64 0, .slice none 0 0, .bool false, .int .u64 0, .int .u64 0, .string ⟨#[]⟩, .int .u64 0, .int .i64 0, .slice none 0 0, .slice none 0 0, .int .i64 0, .int .u64 0, .int .i64 0] 40)
            have hc5 := (Blk.fresh w5 40 #[.int .i64 0, .int .i64 0, .int .i64 0, .int .u64 0, .int .u64 0, .int .u64 0, .slice none 0 0, .int .u64 0, .int .u64 0, .bool false, .int .i64 0, .slice none 0 0, .bool false, .int .u64 0, .int .u64 0, .string ⟨#[]⟩, .int .u64 0, .int .i64 0, .slice none 0 0, .slice none 0 0, .int .i64 0, .int .u64 0, .int .i64 0]).cell
            have hl5 := (Blk.fresh w5 40 #[.int .i64 0, .int .i64 0, .int .i64 0, .int .u64 0, .int .u64 0, .int .u64 0, .slice none 0 0, .int .u64 0, .int .u64 0, .bool false, .int .i64 0, .slice none 0 0, .bool false, .int .u64 0, .int .u64 0, .string ⟨#[]⟩, .int .u64 0, .int .i64 0, .slice none 0 0, .slice none 0 0, .int .i64 0, .int .u64 0, .int .i64 0]).lt
            clear hBt hkt hk5 e15 hle hge
            go_wp2_with (refine wpList_store_fresh rfl rfl _ _ _ rfl _ rfl rfl _ rfl _ _ Tryd.sizeM (by simp) rfl ?_)
            have q1 : ((t : Int)).tmod 15 = (t : Int) % 15 := Int.tmod_eq_emod_of_nonneg (by omega)
            have q4 : ((t : Int) % 15 == 0) = false := by simpa using hz
            go_quiet (fail)
            clear q1 q4
            go_wp2
            have et : ((t + 1 : Nat) : Int) - 1 = t := by omega
            go_roundw
            case rel => exact ⟨t + 1, _, by omega, by omega, by go_num, rfl, htg0, htg1, Blk.eq (hB5.drewN _) (by rw [et]), hkk5.drewN _⟩
            case measure => simp [intOf]; omega
        · obtain et : (t : Int) = ticks + 1 := by omega
          clear et
          have k1 : IntKind.i64.wrap (100 + num % 8) = 100 + num % 8 := IntWalk.i64_in _ (by omega)
          go_wp2_with fail
          refine (recv_ok b _ _ _ _ _ _ _ _ _ nilS nilS _ _ _ (8) 0 (100 + num % 8) 0 0 0 nilS 0 0 (true) 0 nilS false 0 ((k : Int)) ⟨#[]⟩ ((k : Int)) 0 nilS nilS 0 (9 * (k : Int)) (0) _ (by omega) (by omega) rfl rfl rfl rfl rfl hBt).mono ?_
          rintro e w5 ⟨rfl, hB5, hk5⟩
          have hkk5 := (hkt.step hk5 (by simpa using hbw)).alloc (.cells #[.int .i64 0, .int .i64 0, .int .i64 0, .int .u64 0, .int .u64 0, .int .u64 0, .slice none 0 0, .int .u64 0, .int .u64 0, .bool false, .int .i64 0, .slice none 0 0, .bool false, .int .u64 0, .int .u64 0, .string ⟨#[]⟩, .int .u64 0, .int .i64 0, .slice none 0 0, .slice none 0 0, .int .i64 0, .int .u64 0, .int .i64 0] 40)
          replace hB5 := hB5.alloc (.cells #[.int .i64 0, .int .i64 0, .int .i64 0, .int .u64 0, .int .u64 0, .int .u64 0, .slice none 0 0, .int .u64 0, .int .u64 0, .bool false, .int .i64 0, .slice none 0 0, .bool false, .int .u64 0, .int .u64 0, .string ⟨#[]⟩, .int .u64 0, .int .i64 0, .slice none 0 0, .slice none 0 0, .int .i64 0, .int .u64 0, .int .i64 0] 40)
          clear hBt hkt hk5 k1
          go_wp2_with (refine wpList_store_fresh rfl rfl _ _ _ rfl _ rfl rfl _ rfl _ _ Tryd.sizeM (by simp) rfl ?_)
          refine (reply_any b _ _ _ _ _ _ _ _ _ nilS nilS _ _ _ _ hB5).mono ?_
          rintro e w6 ⟨rfl, hk6⟩
          have hkk6 := (hkk5.trans hk6).alloc (.cells #[.int .u64 ((k : Int)), .int .i64 (0), .slice (nilS).1 (nilS).2.1 (nilS).2.2, .slice (nilS).1 (nilS).2.1 (nilS).2.2, .int .i64 (0), .int .u64 (9 * (k : Int))] 38)
          replace hB5 := (hB5.keep hk6 (by simp)).alloc (.cells #[.int .u64 ((k : Int)), .int .i64 (0), .slice (nilS).1 (nilS).2.1 (nilS).2.2, .slice (nilS).1 (nilS).2.1 (nilS).2.2, .int .i64 (0), .int .u64 (9 * (k : Int))] 38)
          clear hkk5 hk6
          go_wp2_with (refine wpList_store_fresh rfl rfl _ _ _ rfl _ rfl rfl _ rfl _ _ Tryd.sizeR (by simp) rfl ?_)
          have ek : ((k + 1 : Nat) : Int) - 1 = k := by omega
          go_roundw
          case rel => exact ⟨k + 1, _, _, _, _, _, _, _, by omega, by omega, by go_num, htg0, htg1, Blk.eq hB5 (by rw [ek]), hkk6⟩
          case measure => simp [intOf]; omega
    · go_wp2
      go_ret
      exact ⟨rfl, hkk⟩
end Go.Proofs.YtpkjcdmeabjifaaDoor
