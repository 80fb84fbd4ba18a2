/- The statements' own known-answer test of the client, and beneath it the words for the variable errors.errorType. -/
import Derived.Test.YtpkjcdmeabjifaaDoorCli5
import Derived.Test.YtpkjcdmeabjifaaDoorErr5

namespace Go.Proofs.YtpkjcdmeabjifaaDoor
open Go.RowKit

set_option maxRecDepth 100000 in
set_option maxHeartbeats 2000000 in
theorem known_any (w : World) (hg : (w).cell? ⟨0, 0, none⟩ = some (.iface 100 (.agg #[.pointer (some ⟨1, 26, none⟩)]))) :
    Calls Tryd.prog 6 #[] w fun e w' => e = .returned (.bool true) ∧ Keeps [] w w' := by
  go_enter Tryd.func6, Tryd.ntmps6
  go_wp2_with fail
  refine (new_ok 0 3 _ (by omega) (by omega) (by omega) (by omega)).mono ?_
  rintro e w1 ⟨b, rfl, hb, hB1, hk1⟩
  go_wp2_with fail
  refine (ask_ok b 0 3 (0 % 3) 0 ⟨#[]⟩ false 0 0 0 nilS nilS 0 0 false _ _ (by omega) (by omega) (by decide) (by omega) (by omega) rfl hB1).mono ?_
  rintro e w2 ⟨rfl, hB2, hk2⟩
  have hk02 : Keeps [] w w2 := hk1.step hk2 (by simpa using hb)
  go_wp2_with (refine wpList_store_fresh rfl rfl _ _ _ rfl _ rfl rfl _ rfl _ _ Tryd.sizeM (by simp) rfl ?_)
  have hbl := hB2.lt
  have hB3 := hB2.alloc (.cells #[.int .i64 7, .int .i64 (100 + 0), .int .i64 (0 % 3), .int .u64 0, .int .u64 0, .int .u64 0, .slice none 0 0, .int .u64 0, .int .u64 0, .bool false, .int .i64 0, .slice none 0 0, .bool false, .int .u64 (0 + 1), .int .u64 (0 + 1), .string (⟨#[120]⟩), .int .u64 0, .int .i64 0, .slice none 0 0, .slice none 0 0, .int .i64 0, .int .u64 0, .int .i64 0] 40)
  refine (ask_busy b 0 3 (0 % 3) (0 + 1) ⟨#[120]⟩ true 0 0 0 nilS nilS 0 0 false _ _ rfl hB3).mono ?_
  rintro e w3 ⟨g, rfl, hE3, hk3⟩
  have hM3 := (Blk.fresh w2 40 #[.int .i64 7, .int .i64 (100 + 0), .int .i64 (0 % 3), .int .u64 0, .int .u64 0, .int .u64 0, .slice none 0 0, .int .u64 0, .int .u64 0, .bool false, .int .i64 0, .slice none 0 0, .bool false, .int .u64 (0 + 1), .int .u64 (0 + 1), .string (⟨#[120]⟩), .int .u64 0, .int .i64 0, .slice none 0 0, .slice none 0 0, .int .i64 0, .int .u64 0, .int .i64 0]).keep hk3 (by simp)
  replace hB3 := hB3.keep hk3 (by simp)
  have hk03 : Keeps [] w w3 := (hk02.alloc _).trans hk3
  have hg3 : (w3).cell? ⟨0, 0, none⟩ = some (.iface 100 (.agg #[.pointer (some ⟨1, 26, none⟩)])) := hk03.cellSome hg (by simp)
  have hcM := hM3.cell
  have hlM := hM3.lt
  have hE1 := (hE3.alloc (.cells #[.int .i64 0, .int .i64 0, .int .i64 0, .int .u64 0, .int .u64 0, .int .u64 0, .slice none 0 0, .int .u64 0, .int .u64 0, .bool false, .int .i64 0, .slice none 0 0, .bool false, .int .u64 0, .int .u64 0, .string ⟨#[]⟩, .int .u64 0, .int .i64 0, .slice none 0 0, .slice none 0 0, .int .i64 0, .int .u64 0, .int .i64 0] 40)).cell 1
  have hgA : (w3.alloc (.cells #[.int .i64 0, .int .i64 0, .int .i64 0, .int .u64 0, .int .u64 0, .int .u64 0, .slice none 0 0, .int .u64 0, .int .u64 0, .bool false, .int .i64 0, .slice none 0 0, .bool false, .int .u64 0, .int .u64 0, .string ⟨#[]⟩, .int .u64 0, .int .i64 0, .slice none 0 0, .slice none 0 0, .int .i64 0, .int .u64 0, .int .i64 0] 40)).cell? ⟨0, 0, none⟩ = some (.iface 100 (.agg #[.pointer (some ⟨1, 26, none⟩)])) := ((Keeps.refl [] w3).alloc _).cellSome hg3 (by simp)
  have hB4 := hB3.alloc (.cells #[.int .i64 0, .int .i64 0, .int .i64 0, .int .u64 0, .int .u64 0, .int .u64 0, .slice none 0 0, .int .u64 0, .int .u64 0, .bool false, .int .i64 0, .slice none 0 0, .bool false, .int .u64 0, .int .u64 0, .string ⟨#[]⟩, .int .u64 0, .int .i64 0, .slice none 0 0, .slice none 0 0, .int .i64 0, .int .u64 0, .int .i64 0] 40)
  have hM4 := hM3.alloc (.cells #[.int .i64 0, .int .i64 0, .int .i64 0, .int .u64 0, .int .u64 0, .int .u64 0, .slice none 0 0, .int .u64 0, .int .u64 0, .bool false, .int .i64 0, .slice none 0 0, .bool false, .int .u64 0, .int .u64 0, .string ⟨#[]⟩, .int .u64 0, .int .i64 0, .slice none 0 0, .slice none 0 0, .int .i64 0, .int .u64 0, .int .i64 0] 40)
  have hk04 := hk03.alloc (.cells #[.int .i64 0, .int .i64 0, .int .i64 0, .int .u64 0, .int .u64 0, .int .u64 0, .slice none 0 0, .int .u64 0, .int .u64 0, .bool false, .int .i64 0, .slice none 0 0, .bool false, .int .u64 0, .int .u64 0, .string ⟨#[]⟩, .int .u64 0, .int .i64 0, .slice none 0 0, .slice none 0 0, .int .i64 0, .int .u64 0, .int .i64 0] 40)
  clear hB1 hB2 hk1 hk2 hk3 hg
  go_wp2_with (first | (refine wpList_store_fresh rfl rfl _ _ _ rfl _ rfl rfl _ rfl _ _ Tryd.sizeM (by simp) rfl ?_) | (go_at_call 14; refine (class_within g 53 _ hgA hE1).mono ?_; rintro e w4 ⟨rfl, hk4⟩))
  replace hB4 := hB4.keep (Keeps.of_below (L := []) hk4) (by simp)
  replace hM4 := hM4.keep (Keeps.of_below (L := []) hk4) (by simp)
  have hk05 : Keeps [] w w4 := hk04.trans (Keeps.of_below hk4)
  clear hE1 hE3 hgA hg3 hM3 hB3 hcM hlM hk03 hk04
  go_loopw [6] (fun i wr => ∃ k : Nat, k ≤ 14 ∧ i = .int .i64 (k : Int) ∧ Blk wr b 73 #[.int .i64 (0), .int .i64 (3), .int .i64 (0 % 3), .int .u64 (0 + 1), .string (⟨#[120]⟩), .bool (true), .int .i64 ((k : Int)), .int .u64 (0), .int .i64 (0), .slice (nilS).1 (nilS).2.1 (nilS).2.2, .slice (nilS).1 (nilS).2.1 (nilS).2.2, .int .i64 (0), .int .u64 (0), .bool (false)] ∧ Blk wr w2.heap.size 40 #[.int .i64 7, .int .i64 (100 + 0), .int .i64 (0 % 3), .int .u64 0, .int .u64 0, .int .u64 0, .slice none 0 0, .int .u64 0, .int .u64 0, .bool false, .int .i64 0, .slice none 0 0, .bool false, .int .u64 (0 + 1), .int .u64 (0 + 1), .string (⟨#[120]⟩), .int .u64 0, .int .i64 0, .slice none 0 0, .slice none 0 0, .int .i64 0, .int .u64 0, .int .i64 0] ∧ Keeps [] w wr) (fun i _ => 14 - (intOf i).toNat)
  case atStart => exact ⟨0, by omega, rfl, hB4, hM4, hk05⟩
  case round =>
    obtain ⟨k, hk, rfl, hBk, hMk, hkk⟩ := hrel
    clear hB4 hM4 hk05 hk4
    by_cases hlt : k < 14
    · go_wp2_with (first | (refine wpList_store_fresh rfl rfl _ _ _ rfl _ rfl rfl _ rfl _ _ Tryd.sizeM (by simp) rfl ?_) | (go_at_call 11; refine (tick_wait b 0 3 (0 % 3) (0 + 1) ⟨#[120]⟩ true (k : Int) 0 0 nilS nilS 0 0 false _ rfl (by omega) (by omega) hBk).mono ?_; rintro e w5 ⟨rfl, hB5, hk5⟩))
      go_roundw
      case rel => exact ⟨k + 1, by omega, by go_num, Blk.eq (hB5.alloc _) (by simp), (hMk.keep hk5 (by simp; omega)).alloc _, (hkk.step hk5 (by simpa using hb)).alloc _⟩
      case measure => simp [intOf]; omega
    · obtain rfl : k = 14 := by omega
      go_wp2_with fail
      refine (tick_turn b 0 3 (0 % 3) (0 + 1) ⟨#[120]⟩ true _ 0 0 nilS nilS 0 0 false _ (by omega) (by omega) (by omega) (by omega) (by omega) (by omega) rfl rfl hBk).mono ?_
      rintro e w5 ⟨rfl, hB5, hk5⟩
      replace hMk := hMk.keep hk5 (by simp; omega)
      have hcM := hMk.cell
      have hlM := hMk.lt
      replace hkk := hkk.step hk5 (by simpa using hb)
      clear hBk hk5
      go_wp2_with (refine wpList_store_agg rfl rfl _ _ _ rfl w2.heap.size 0 rfl _ rfl 40 _ hMk Tryd.sizeM (by simp) rfl _ rfl ?_; intro w6 hM6 hk6; have hcM6 := hM6.cell)
      go_ret
      exact ⟨rfl, hkk.step hk6 (by have := hk02.size; simp; omega)⟩
end Go.Proofs.YtpkjcdmeabjifaaDoor
