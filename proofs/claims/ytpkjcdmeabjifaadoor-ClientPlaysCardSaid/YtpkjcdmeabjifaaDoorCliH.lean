/- ClientHints: the walk. -/
import Derived.Test.YtpkjcdmeabjifaaDoorCliK
import Derived.Test.YtpkjcdmeabjifaaDoorCli6
import Derived.Test.YtpkjcdmeabjifaaDoorCli7
import Derived.Test.YtpkjcdmeabjifaaDoorCli8

namespace Go.Proofs.YtpkjcdmeabjifaaDoor
open Go.RowKit

theorem recv_hint' (b : Nat) (num n tgt seq : Int) (sql : ByteArray) (wt : Bool) (tk rs rc : Int) (cols rows : Option Addr × Nat × Nat) (cnt idx : Int) (sm : Bool) (mk mf mt mterm mix mlt : Int) (ment : Option Addr × Nat × Nat) (mcm mrd : Int) (mok : Bool) (moff : Int) (mdat : Option Addr × Nat × Nat) (mdone : Bool) (mcl msq : Int) (msql : ByteArray) (mrs mrc : Int) (mcols mrows : Option Addr × Nat × Nat) (mcnt mridx mh : Int) (w : World) (h0 : 0 ≤ num) (h1 : num < 8) (hn : 0 < n) (hn' : n < 100) (hwt : wt = true) (hk : mk = 8) (ht : mt = 100 + num) (hq : msq = seq) (ho : mok = false)
    (hh : 0 ≤ mh) (hh' : mh < n) (hne : (mh != tgt) = true) (hB : Blk w b 73 #[.int .i64 (num), .int .i64 (n), .int .i64 (tgt), .int .u64 (seq), .string (sql), .bool (wt), .int .i64 (tk), .int .u64 (rs), .int .i64 (rc), .slice (cols).1 (cols).2.1 (cols).2.2, .slice (rows).1 (rows).2.1 (rows).2.2, .int .i64 (cnt), .int .u64 (idx), .bool (sm)]) :
    Calls Tryd.prog 9 #[.pointer (some ⟨b, 0, none⟩), .agg #[.int .i64 mk, .int .i64 mf, .int .i64 mt, .int .u64 mterm, .int .u64 mix, .int .u64 mlt, .slice ment.1 ment.2.1 ment.2.2, .int .u64 mcm, .int .u64 mrd, .bool mok, .int .i64 moff, .slice mdat.1 mdat.2.1 mdat.2.2, .bool mdone, .int .u64 mcl, .int .u64 msq, .string msql, .int .u64 mrs, .int .i64 mrc, .slice mcols.1 mcols.2.1 mcols.2.2, .slice mrows.1 mrows.2.1 mrows.2.2, .int .i64 mcnt, .int .u64 mridx, .int .i64 mh]] w fun e w' => e = .returned (.tuple #[.agg #[.int .i64 7, .int .i64 (100 + num), .int .i64 (mh), .int .u64 0, .int .u64 0, .int .u64 0, .slice none 0 0, .int .u64 0, .int .u64 0, .bool false, .int .i64 0, .slice none 0 0, .bool false, .int .u64 (num + 1), .int .u64 (seq), .string (sql), .int .u64 0, .int .i64 0, .slice none 0 0, .slice none 0 0, .int .i64 0, .int .u64 0, .int .i64 0], .bool true, .bool false]) ∧
      Blk w' b 73 #[.int .i64 (num), .int .i64 (n), .int .i64 (mh), .int .u64 (seq), .string (sql), .bool (true), .int .i64 (0), .int .u64 (rs), .int .i64 (rc), .slice (cols).1 (cols).2.1 (cols).2.2, .slice (rows).1 (rows).2.1 (rows).2.2, .int .i64 (cnt), .int .u64 (idx), .bool (sm)] ∧ Keeps [b] w w' := by
  have h := recv_hint b num n tgt seq sql wt tk rs rc cols rows cnt idx sm mk mf mt mterm mix mlt ment mcm mrd mok moff mdat mdone mcl msq msql mrs mrc mcols mrows mcnt mridx mh w h0 h1 hn hn' hwt hk ht hq ho hh hh' hne hB
  rw [Int.emod_eq_of_lt hh hh'] at h
  exact h

set_option maxRecDepth 100000 in
set_option maxHeartbeats 4000000 in
theorem hints_any (num n wrong : Int) (ha : Option Addr) (hl hcp : Nat) (zs : Nat → Int) (w : World) (hg : (w).cell? ⟨0, 0, none⟩ = some (.iface 100 (.agg #[.pointer (some ⟨1, 26, none⟩)])))
    (hnum : 0 ≤ num) (hnum' : num ≤ 255) (hn : 0 ≤ n) (hn' : n ≤ 255) (hwr : 0 ≤ wrong) (hwr' : wrong ≤ 255) (hlm : hl ≤ 9223372036854775807)
    (hz : ∀ i, i < hl → ∃ b o, ha = some ⟨b, o, none⟩ ∧ w.cell? ⟨b, o + i, none⟩ = some (.int .i8 (zs i)) ∧ -128 ≤ zs i ∧ zs i ≤ 127) :
    Calls Tryd.prog 3 #[.int .u8 num, .int .u8 n, .slice ha hl hcp, .int .u8 wrong] w fun e w' => e = .returned (.bool true) ∧ Keeps [] w w' := by
  have HZ := Lib.hid hz
  clear hz
  go_enter Tryd.func3, Tryd.ntmps3
  go_wp2_with fail
  refine (known_any w hg).mono ?_
  rintro e w1 ⟨rfl, hk1⟩
  by_cases hlong : 40 < hl
  · go_wp2
    go_ret
    exact ⟨rfl, hk1⟩
  · go_wp2_with fail
    refine (new_ok (num % 8) (n % 7 + 1) _ (by omega) (by omega) (by omega) (by omega)).mono ?_
    rintro e w2 ⟨b, rfl, hb, hB2, hk2⟩
    go_wp2_with fail
    refine (ask_ok b (num % 8) (n % 7 + 1) _ 0 ⟨#[]⟩ false 0 0 0 nilS nilS 0 0 false _ _ (by omega) (by omega) (by decide) (by omega) (by omega) rfl hB2).mono ?_
    rintro e w3 ⟨rfl, hB3, hk3⟩
    have hk03 : Keeps [] w w3 := (hk1.trans hk2).step hk3 (by have := hk1.size; simp; omega)
    have hbw : w.heap.size ≤ b := by have := hk1.size; omega
    have hB4 := hB3.alloc (.cells #[.int .i64 7, .int .i64 (100 + num % 8), .int .i64 (num % 8 % (n % 7 + 1)), .int .u64 0, .int .u64 0, .int .u64 0, .slice none 0 0, .int .u64 0, .int .u64 0, .bool false, .int .i64 0, .slice none 0 0, .bool false, .int .u64 (num % 8 + 1), .int .u64 (0 + 1), .string (⟨#[113]⟩), .int .u64 0, .int .i64 0, .slice none 0 0, .slice none 0 0, .int .i64 0, .int .u64 0, .int .i64 0] 40)
    clear hB2 hk1 hk2 hk3 hg
    go_wp2_with (refine wpList_store_fresh rfl rfl _ _ _ rfl _ rfl rfl _ rfl _ _ Tryd.sizeM (by simp) rfl ?_)
    go_loopw [14, 15] (fun t i wr => ∃ (k : Nat) (to tk : Int), k ≤ hl ∧ i = .int .i64 (k : Int) ∧ t = .int .i64 to ∧ 0 ≤ to ∧ to < n % 7 + 1 ∧ Blk wr b 73 #[.int .i64 (num % 8), .int .i64 (n % 7 + 1), .int .i64 (to), .int .u64 (0 + 1), .string (⟨#[113]⟩), .bool (true), .int .i64 (tk), .int .u64 (0), .int .i64 (0), .slice (nilS).1 (nilS).2.1 (nilS).2.2, .slice (nilS).1 (nilS).2.1 (nilS).2.2, .int .i64 (0), .int .u64 (0), .bool (false)] ∧ Keeps [] w wr) (fun _ i _ => hl - (intOf i).toNat)
    case atStart => exact ⟨0, _, 0, by omega, rfl, rfl, Int.emod_nonneg _ (by omega), Int.emod_lt_of_pos _ (by omega), hB4, hk03.alloc _⟩
    case round =>
      obtain ⟨k, to, tk, hk, rfl, rfl, hto, hto', hBk, hkk⟩ := hrel
      clear hB3 hB4 hk03
      by_cases hlt : k < hl
      · obtain ⟨zb, zo, rfl, hzc, hz0, hz1⟩ := HZ.out k hlt
        have hzr := hkk.cellSome hzc (by simp)
        clear hzc
        go_wp2_with fail
        have hq5 : ((wrong % 5 + 2 : Int) != 0 + 1) = true := by rw [bne_iff_ne]; omega
        refine (recv_no4 b _ _ _ _ _ _ _ _ _ nilS nilS _ _ _ (8) 0 (100 + num % 8) 0 0 0 nilS 0 0 (false) 0 nilS false 0 (wrong % 5 + 2) ⟨#[]⟩ (0) 0 nilS nilS 0 (0) (zs k) _ (by omega) (by omega) rfl rfl rfl hq5 hBk).mono ?_
        rintro e w5 ⟨rfl, hk5⟩
        have hB5 := (hBk.keep hk5 (by simp)).alloc (.cells #[.int .i64 0, .int .i64 0, .int .i64 0, .int .u64 0, .int .u64 0, .int .u64 0, .slice none 0 0, .int .u64 0, .int .u64 0, .bool false, .int .i64 0, .slice none 0 0, .bool false, .int .u64 0, .int .u64 0, .string ⟨#[]⟩, .int .u64 0, .int .i64 0, .slice none 0 0, .slice none 0 0, .int .i64 0, .int .u64 0, .int .i64 0] 40)
        have hkk5 := (hkk.trans hk5).alloc (.cells #[.int .i64 0, .int .i64 0, .int .i64 0, .int .u64 0, .int .u64 0, .int .u64 0, .slice none 0 0, .int .u64 0, .int .u64 0, .bool false, .int .i64 0, .slice none 0 0, .bool false, .int .u64 0, .int .u64 0, .string ⟨#[]⟩, .int .u64 0, .int .i64 0, .slice none 0 0, .slice none 0 0, .int .i64 0, .int .u64 0, .int .i64 0] 40)
        clear hBk hkk hk5 hzr hq5
        go_wp2_with (refine wpList_store_fresh rfl rfl _ _ _ rfl _ rfl rfl _ rfl _ _ Tryd.sizeM (by simp) rfl ?_)
        by_cases hh : 0 ≤ zs k ∧ zs k < n % 7 + 1 ∧ zs k ≠ to
        · obtain ⟨hh0, hh1, hh2⟩ := hh
          have hne : (zs k != to) = true := by simpa using hh2
          refine (recv_hint' b _ _ _ _ _ _ _ _ _ nilS nilS _ _ _ (8) 0 (100 + num % 8) 0 0 0 nilS 0 0 (false) 0 nilS false 0 (1) ⟨#[]⟩ (0) 0 nilS nilS 0 (0) (zs k) _ (by omega) (by omega) (by omega) (by omega) rfl rfl rfl rfl rfl hh0 hh1 hne hB5).mono ?_
          rintro e w6 ⟨rfl, hB6, hk6⟩
          have hkk6 := hkk5.step hk6 (by simpa using hbw)
          have hB7 := hB6.alloc (.cells #[.int .i64 7, .int .i64 (100 + num % 8), .int .i64 (zs k), .int .u64 0, .int .u64 0, .int .u64 0, .slice none 0 0, .int .u64 0, .int .u64 0, .bool false, .int .i64 0, .slice none 0 0, .bool false, .int .u64 (num % 8 + 1), .int .u64 (0 + 1), .string (⟨#[113]⟩), .int .u64 0, .int .i64 0, .slice none 0 0, .slice none 0 0, .int .i64 0, .int .u64 0, .int .i64 0] 40)
          clear hB5 hkk5 hk6
          go_wp2_with (refine wpList_store_fresh rfl rfl _ _ _ rfl _ rfl rfl _ rfl _ _ Tryd.sizeM (by simp) rfl ?_)
          refine (target_any b _ _ _ _ _ _ _ _ _ nilS nilS _ _ _ _ hB7).mono ?_
          rintro e w8 ⟨rfl, rfl⟩
          go_wp2
          go_roundw
          case rel => exact ⟨k + 1, _, 0, by omega, by go_num, rfl, hh0, hh1, hB7, hkk6.alloc _⟩
          case measure => simp [intOf]; omega
        · have hh' : zs k < 0 ∨ (0 ≤ zs k ∧ n % 7 + 1 ≤ zs k) ∨ (0 ≤ zs k ∧ zs k < n % 7 + 1 ∧ zs k = to) := by omega
          refine (recv_next b _ _ _ _ _ _ _ _ _ nilS nilS _ _ _ (8) 0 (100 + num % 8) 0 0 0 nilS 0 0 (false) 0 nilS false 0 (1) ⟨#[]⟩ (0) 0 nilS nilS 0 (0) (zs k) _ (by omega) (by omega) (by omega) (by omega) hto (by omega) rfl rfl rfl rfl rfl hh' hB5).mono ?_
          rintro e w6 ⟨rfl, hB6, hk6⟩
          have hkk6 := hkk5.step hk6 (by simpa using hbw)
          have hB7 := hB6.alloc (.cells #[.int .i64 7, .int .i64 (100 + num % 8), .int .i64 ((to + 1) % (n % 7 + 1)), .int .u64 0, .int .u64 0, .int .u64 0, .slice none 0 0, .int .u64 0, .int .u64 0, .bool false, .int .i64 0, .slice none 0 0, .bool false, .int .u64 (num % 8 + 1), .int .u64 (0 + 1), .string (⟨#[113]⟩), .int .u64 0, .int .i64 0, .slice none 0 0, .slice none 0 0, .int .i64 0, .int .u64 0, .int .i64 0] 40)
          clear hB5 hkk5 hk6
          rcases hh' with hh' | ⟨hh0, hh'⟩ | ⟨hh0, hh1, rfl⟩
          all_goals
            go_wp2_with (refine wpList_store_fresh rfl rfl _ _ _ rfl _ rfl rfl _ rfl _ _ Tryd.sizeM (by simp) rfl ?_)
            refine (target_any b _ _ _ _ _ _ _ _ _ nilS nilS _ _ _ _ hB7).mono ?_
            rintro e w8 ⟨rfl, rfl⟩
            go_wp2
            go_roundw
            case rel => exact ⟨k + 1, _, 0, by omega, by go_num, rfl, Int.emod_nonneg _ (by omega), Int.emod_lt_of_pos _ (by omega), hB7, hkk6.alloc _⟩
            case measure => simp [intOf]; omega
      · go_wp2
        go_ret
        exact ⟨rfl, hkk⟩
end Go.Proofs.YtpkjcdmeabjifaaDoor
