/- ClientPlays: the walk. -/
import Derived.Test.YtpkjcdmeabjifaaDoorBoth2
import Derived.Test.YtpkjcdmeabjifaaDoorSame
import Derived.Test.YtpkjcdmeabjifaaDoorAns2
import Derived.Test.YtpkjcdmeabjifaaDoorCliR
import Derived.Test.YtpkjcdmeabjifaaDoorLaws2
import Derived.Test.YtpkjcdmeabjifaaDoorStepsIn
import Derived.Deep.DeepCutAuto
import Derived.Deep.CutBlock

namespace Go.Proofs.YtpkjcdmeabjifaaDoor
open Go.RowKit

theorem Tryd.sizeS : (Tryd.prog.info? 59).map (·.size) = some 26 := by kernel_rfl

theorem ErrIs.keepR {w w' : World} {ev : Value} {f : Int} {r : Nat} {cs : Array Value} (h : ErrIs w ev f) (hR : Blk w r 64 cs) (hk : Keeps [r] w w') : ErrIs w' ev f := by
  rcases h with h | ⟨g, p, h1, h2⟩
  · exact .inl h
  · exact .inr ⟨g, p, h1, h2.keep hk (by simpa using h2.ne hR (by decide))⟩

set_option maxRecDepth 100000 in
set_option maxHeartbeats 40000000 in
theorem plays_any (num n : Int) (la : Option Addr) (ll lc : Nat) (w : World) (hg : (w).cell? ⟨0, 0, none⟩ = some (.iface 100 (.agg #[.pointer (some ⟨1, 26, none⟩)]))) (hll : ll ≤ 9223372036854775807) (hz : StepsIn w la ll) :
    Calls Tryd.prog 5 #[.int .i64 num, .int .i64 n, .slice la ll lc] w fun e w' => e = .returned (.bool true) ∧ Keeps [] w w' := by
  have HZ := Lib.hid hz
  clear hz
  go_enter Tryd.func5, Tryd.ntmps5
  go_wp2_with fail
  refine (known_any w hg).mono ?_
  rintro e w1 ⟨rfl, hk1⟩
  by_cases hlong : 120 < ll
  · go_wp2
    go_ret
    exact ⟨rfl, hk1⟩
  have hg1 : (w1).cell? ⟨0, 0, none⟩ = some (.iface 100 (.agg #[.pointer (some ⟨1, 26, none⟩)])) := hk1.cellSome hg (by simp)
  by_cases hval : num < 0 ∨ 8 ≤ num ∨ n < 1 ∨ 7 < n
  · go_wp2_with fail
    refine (new_no num n _ hval).mono ?_
    rintro e w2 ⟨g, rfl, _, hE2, hk2⟩
    go_wp2_with fail
    refine (rnew_no num n _ hval).mono ?_
    rintro e w3 ⟨rfl, rfl⟩
    go_wp2_with fail
    refine (class_any _ 50 _ (hk2.cellSome hg1 (by simp)) (.inr ⟨g, _, rfl, hE2⟩)).mono ?_
    rintro e w3 ⟨rfl, hk3⟩
    go_wp2
    go_ret
    exact ⟨rfl, (hk1.trans hk2).trans hk3⟩
  · have hv : 0 ≤ num ∧ num < 8 ∧ 1 ≤ n ∧ n ≤ 7 := by omega
    obtain ⟨v0, v1, v2, v3⟩ := hv
    clear hval
    go_wp2_with fail
    refine (new_ok num n _ v0 v1 v2 v3).mono ?_
    rintro e w2 ⟨b, rfl, hb, hB2, hk2⟩
    go_wp2_with fail
    refine (rnew_ok num n _ v0 v1 v2 v3).mono ?_
    rintro e w3 ⟨r, rfl, hr, hR3, hk3⟩
    have hbr : b ≠ r := by have := hB2.lt; omega
    have hB3 := hB2.keep hk3 (by simp)
    have hk03 := (hk1.trans hk2).trans hk3
    have hbw : w.heap.size ≤ b := by have := hk1.size; omega
    have hrw : w.heap.size ≤ r := by have := hk1.size; have := hk2.size; omega
    have hg3 : (w3).cell? ⟨0, 0, none⟩ = some (.iface 100 (.agg #[.pointer (some ⟨1, 26, none⟩)])) := hk03.cellSome hg (by simp)
    clear hk1 hk2 hk3 hg1 hB2
    go_wp2_with (go_at_call 14; refine (class_any _ 0 _ hg3 (.inl ⟨rfl, rfl⟩)).mono ?_; rintro e w4 ⟨rfl, hk4⟩)
    replace hB3 := hB3.keep hk4 (by simp)
    replace hR3 := hR3.keep hk4 (by simp)
    replace hk03 := hk03.trans hk4
    clear hk4 hg3
    go_loopw [11] (fun i wr => ∃ (k : Nat) (tgt s : Int) (sql : ByteArray) (wt : Bool) (tk rs rc : Int) (cols rows : Option Addr × Nat × Nat) (cnt idx : Int) (sm : Bool), k ≤ ll ∧ i = .int .i64 (k : Int) ∧ 0 ≤ tgt ∧ tgt < n ∧ 0 ≤ s ∧ s ≤ (k : Int) ∧ 0 ≤ tk ∧ tk < 15 ∧ TextsIn w cols ∧ RowsIn w rows ∧
      Blk wr b 73 #[.int .i64 (num), .int .i64 (n), .int .i64 (tgt), .int .u64 (s), .string (sql), .bool (wt), .int .i64 (tk), .int .u64 (rs), .int .i64 (rc), .slice (cols).1 (cols).2.1 (cols).2.2, .slice (rows).1 (rows).2.1 (rows).2.2, .int .i64 (cnt), .int .u64 (idx), .bool (sm)] ∧ Blk wr r 64 #[.int .i64 (num), .int .i64 (n), .int .i64 (tgt), .int .u64 (s + 1), .bool (wt), .int .u64 (s), .string (sql), .int .i64 (tk), .int .u64 (rs), .int .i64 (rc), .slice (cols).1 (cols).2.1 (cols).2.2, .slice (rows).1 (rows).2.1 (rows).2.2, .int .i64 (cnt), .int .u64 (idx), .bool (sm)] ∧ Keeps [] w wr) (fun i _ => ll - (intOf i).toNat)
    case atStart => exact ⟨0, _, 0, _, _, 0, 0, 0, nilS, nilS, 0, 0, _, by omega, rfl, Int.emod_nonneg _ (by omega), Int.emod_lt_of_pos _ (by omega), by omega, by omega, by omega, by omega, ⟨by decide, fun i hi => by cases hi⟩, ⟨by decide, fun i hi => by cases hi⟩, hB3, hR3, hk03⟩
    case round =>
      obtain ⟨k, tgt, s, sql, wt, tk, rs, rc, cols, rows, cnt, idx, sm, hk, rfl, hg0, hg1, hs0, hs1, ht0, ht1, hC, hR, hBk, hRk, hkk⟩ := hrel
      clear hB3 hR3 hk03
      have HC := Lib.hid hC
      have HR := Lib.hid hR
      clear hC hR
      by_cases hlt : k < ll
      · obtain ⟨zb, zo, wh, q, mk, mf, mt, mterm, mix, mlt, ment, mcm, mrd, mok, moff, mdat, mdone, mcl, msq, msql, mrs, mrc, mcols, mrows, mcnt, mridx, mh, right, rfl, hz, hmc, hmr, hqs⟩ := HZ.out k hlt
        have HL := Lib.hid (fun j v hv => hkk.cellSome (hz j v hv) (by simp) : ∀ j v, ([.int .i64 wh, .string q, .int .i64 mk, .int .i64 mf, .int .i64 mt, .int .u64 mterm, .int .u64 mix, .int .u64 mlt, .slice ment.1 ment.2.1 ment.2.2, .int .u64 mcm, .int .u64 mrd, .bool mok, .int .i64 moff, .slice mdat.1 mdat.2.1 mdat.2.2, .bool mdone, .int .u64 mcl, .int .u64 msq, .string msql, .int .u64 mrs, .int .i64 mrc, .slice mcols.1 mcols.2.1 mcols.2.2, .slice mrows.1 mrows.2.1 mrows.2.2, .int .i64 mcnt, .int .u64 mridx, .int .i64 mh, .bool right] : List Value)[j]? = some v → wr.cell? ⟨zb, zo + k * 26 + j, none⟩ = some v)
        have HMC := Lib.hid hmc
        have HMR := Lib.hid hmr
        have hS := Blk.fresh wr 59 ([.int .i64 wh, .string q, .int .i64 mk, .int .i64 mf, .int .i64 mt, .int .u64 mterm, .int .u64 mix, .int .u64 mlt, .slice ment.1 ment.2.1 ment.2.2, .int .u64 mcm, .int .u64 mrd, .bool mok, .int .i64 moff, .slice mdat.1 mdat.2.1 mdat.2.2, .bool mdone, .int .u64 mcl, .int .u64 msq, .string msql, .int .u64 mrs, .int .i64 mrc, .slice mcols.1 mcols.2.1 mcols.2.2, .slice mrows.1 mrows.2.1 mrows.2.2, .int .i64 mcnt, .int .u64 mridx, .int .i64 mh, .bool right] : List Value).toArray
        have hkS := (Keeps.refl [] wr).alloc (.cells ([.int .i64 wh, .string q, .int .i64 mk, .int .i64 mf, .int .i64 mt, .int .u64 mterm, .int .u64 mix, .int .u64 mlt, .slice ment.1 ment.2.1 ment.2.2, .int .u64 mcm, .int .u64 mrd, .bool mok, .int .i64 moff, .slice mdat.1 mdat.2.1 mdat.2.2, .bool mdone, .int .u64 mcl, .int .u64 msq, .string msql, .int .u64 mrs, .int .i64 mrc, .slice mcols.1 mcols.2.1 mcols.2.2, .slice mrows.1 mrows.2.1 mrows.2.2, .int .i64 mcnt, .int .u64 mridx, .int .i64 mh, .bool right] : List Value).toArray 59)
        have hcS := hS.cell
        have hmcl : mcols.2.1 ≤ 9223372036854775807 := hmc.1
        have hmrl : mrows.2.1 ≤ 9223372036854775807 := hmr.1
        clear hz hmc hmr
        by_cases hq3 : 3000 < q.size
        · as_aux_lemma =>
          go_wp2_with (first
            | (refine wpList_load_run rfl _ _ rfl zb (zo + k * 26) rfl ([.int .i64 wh, .string q, .int .i64 mk, .int .i64 mf, .int .i64 mt, .int .u64 mterm, .int .u64 mix, .int .u64 mlt, .slice ment.1 ment.2.1 ment.2.2, .int .u64 mcm, .int .u64 mrd, .bool mok, .int .i64 moff, .slice mdat.1 mdat.2.1 mdat.2.2, .bool mdone, .int .u64 mcl, .int .u64 msq, .string msql, .int .u64 mrs, .int .i64 mrc, .slice mcols.1 mcols.2.1 mcols.2.2, .slice mrows.1 mrows.2.1 mrows.2.2, .int .i64 mcnt, .int .u64 mridx, .int .i64 mh, .bool right]) HL.out _ Tryd.underlying59 rfl Tryd.sizeS ?_)
            | (refine wpList_store_fresh rfl rfl _ _ _ rfl _ rfl rfl _ rfl _ _ Tryd.sizeS (by simp) rfl ?_))
          go_ret
          exact ⟨rfl, hkk.alloc _⟩
        by_cases hr10 : 10 < mrows.2.1
        · as_aux_lemma =>
          go_wp2_with (first
            | (refine wpList_load_run rfl _ _ rfl zb (zo + k * 26) rfl ([.int .i64 wh, .string q, .int .i64 mk, .int .i64 mf, .int .i64 mt, .int .u64 mterm, .int .u64 mix, .int .u64 mlt, .slice ment.1 ment.2.1 ment.2.2, .int .u64 mcm, .int .u64 mrd, .bool mok, .int .i64 moff, .slice mdat.1 mdat.2.1 mdat.2.2, .bool mdone, .int .u64 mcl, .int .u64 msq, .string msql, .int .u64 mrs, .int .i64 mrc, .slice mcols.1 mcols.2.1 mcols.2.2, .slice mrows.1 mrows.2.1 mrows.2.2, .int .i64 mcnt, .int .u64 mridx, .int .i64 mh, .bool right]) HL.out _ Tryd.underlying59 rfl Tryd.sizeS ?_)
            | (refine wpList_store_fresh rfl rfl _ _ _ rfl _ rfl rfl _ rfl _ _ Tryd.sizeS (by simp) rfl ?_))
          go_ret
          exact ⟨rfl, hkk.alloc _⟩
        by_cases hc10 : 10 < mcols.2.1
        · as_aux_lemma =>
          go_wp2_with (first
            | (refine wpList_load_run rfl _ _ rfl zb (zo + k * 26) rfl ([.int .i64 wh, .string q, .int .i64 mk, .int .i64 mf, .int .i64 mt, .int .u64 mterm, .int .u64 mix, .int .u64 mlt, .slice ment.1 ment.2.1 ment.2.2, .int .u64 mcm, .int .u64 mrd, .bool mok, .int .i64 moff, .slice mdat.1 mdat.2.1 mdat.2.2, .bool mdone, .int .u64 mcl, .int .u64 msq, .string msql, .int .u64 mrs, .int .i64 mrc, .slice mcols.1 mcols.2.1 mcols.2.2, .slice mrows.1 mrows.2.1 mrows.2.2, .int .i64 mcnt, .int .u64 mridx, .int .i64 mh, .bool right]) HL.out _ Tryd.underlying59 rfl Tryd.sizeS ?_)
            | (refine wpList_store_fresh rfl rfl _ _ _ rfl _ rfl rfl _ rfl _ _ Tryd.sizeS (by simp) rfl ?_))
          go_ret
          exact ⟨rfl, hkk.alloc _⟩
        go_upto_block 2 with (first
          | (refine wpList_load_run rfl _ _ rfl zb (zo + k * 26) rfl ([.int .i64 wh, .string q, .int .i64 mk, .int .i64 mf, .int .i64 mt, .int .u64 mterm, .int .u64 mix, .int .u64 mlt, .slice ment.1 ment.2.1 ment.2.2, .int .u64 mcm, .int .u64 mrd, .bool mok, .int .i64 moff, .slice mdat.1 mdat.2.1 mdat.2.2, .bool mdone, .int .u64 mcl, .int .u64 msq, .string msql, .int .u64 mrs, .int .i64 mrc, .slice mcols.1 mcols.2.1 mcols.2.2, .slice mrows.1 mrows.2.1 mrows.2.2, .int .i64 mcnt, .int .u64 mridx, .int .i64 mh, .bool right]) HL.out _ Tryd.underlying59 rfl Tryd.sizeS ?_)
          | (refine wpList_store_fresh rfl rfl _ _ _ rfl _ rfl rfl _ rfl _ _ Tryd.sizeS (by simp) rfl ?_))
        go_cut [13] (fun v wx => v = .bool true ∧ ∃ (tgt s : Int) (sql : ByteArray) (wt : Bool) (tk rs rc : Int) (cols rows : Option Addr × Nat × Nat) (cnt idx : Int) (sm : Bool), 0 ≤ tgt ∧ tgt < n ∧ 0 ≤ s ∧ s ≤ (k : Int) + 1 ∧ 0 ≤ tk ∧ tk < 15 ∧ TextsIn w cols ∧ RowsIn w rows ∧
          Blk wx b 73 #[.int .i64 (num), .int .i64 (n), .int .i64 (tgt), .int .u64 (s), .string (sql), .bool (wt), .int .i64 (tk), .int .u64 (rs), .int .i64 (rc), .slice (cols).1 (cols).2.1 (cols).2.2, .slice (rows).1 (rows).2.1 (rows).2.2, .int .i64 (cnt), .int .u64 (idx), .bool (sm)] ∧ Blk wx r 64 #[.int .i64 (num), .int .i64 (n), .int .i64 (tgt), .int .u64 (s + 1), .bool (wt), .int .u64 (s), .string (sql), .int .i64 (tk), .int .u64 (rs), .int .i64 (rc), .slice (cols).1 (cols).2.1 (cols).2.2, .slice (rows).1 (rows).2.1 (rows).2.2, .int .i64 (cnt), .int .u64 (idx), .bool (sm)] ∧ Keeps [] w wx)
        case first =>
          by_cases hA : 0 ≤ wh ∧ wh ≤ 1
          · obtain ⟨kind, frm, to', cl, sq, ms, f, s', sql', wt', tk', e1, e2, e3, e4, cA, cB⟩ := ask_both b r num n tgt s sql wt tk rs rc cols rows cnt idx sm q v0 v1 hs0 (by omega) ht0 ht1
            have CA := Lib.hid cA
            have CB := Lib.hid cB
            have hbl := hBk.lt
            have hrl := hRk.lt
            clear cA cB
            go_upto_if 134 with (fail)
            go_cut [134] (fun v wx => v = .bool true ∧ wx = wr.alloc (.cells ([.int .i64 wh, .string q, .int .i64 mk, .int .i64 mf, .int .i64 mt, .int .u64 mterm, .int .u64 mix, .int .u64 mlt, .slice ment.1 ment.2.1 ment.2.2, .int .u64 mcm, .int .u64 mrd, .bool mok, .int .i64 moff, .slice mdat.1 mdat.2.1 mdat.2.2, .bool mdone, .int .u64 mcl, .int .u64 msq, .string msql, .int .u64 mrs, .int .i64 mrc, .slice mcols.1 mcols.2.1 mcols.2.2, .slice mrows.1 mrows.2.1 mrows.2.2, .int .i64 mcnt, .int .u64 mridx, .int .i64 mh, .bool right] : List Value).toArray 59))
            case first =>
              go_wp2_with fail
              all_goals (go_meet; exact ⟨congrArg Value.bool (Bool.eq_iff_iff.mpr (by simp only [beq_iff_eq, decide_eq_true_eq, beq_eq_false_iff_ne, ne_eq, Bool.not_eq_true, iff_true, iff_false, Bool.false_eq_true] at *; omega)), rfl⟩)
            case rest =>
              obtain ⟨rfl, rfl⟩ := hcut
              as_aux_lemma =>
              go_wp2_with fail
              refine (CA.out _ (hBk.alloc _)).mono ?_
              rintro e w5 ⟨ev, rfl, hE5, hB5, hk5⟩
              as_aux_lemma =>
              have hR5 := (hRk.alloc (.cells ([.int .i64 wh, .string q, .int .i64 mk, .int .i64 mf, .int .i64 mt, .int .u64 mterm, .int .u64 mix, .int .u64 mlt, .slice ment.1 ment.2.1 ment.2.2, .int .u64 mcm, .int .u64 mrd, .bool mok, .int .i64 moff, .slice mdat.1 mdat.2.1 mdat.2.2, .bool mdone, .int .u64 mcl, .int .u64 msq, .string msql, .int .u64 mrs, .int .i64 mrc, .slice mcols.1 mcols.2.1 mcols.2.2, .slice mrows.1 mrows.2.1 mrows.2.2, .int .i64 mcnt, .int .u64 mridx, .int .i64 mh, .bool right] : List Value).toArray 59)).keep hk5 (by simpa using fun e => hbr e.symm)
              have hcS5 := (hS.keep hk5 (by simp; omega)).cell
              have hlS5 := (hS.keep hk5 (by simp; omega)).lt
              have hk05 := (hkk.alloc (.cells ([.int .i64 wh, .string q, .int .i64 mk, .int .i64 mf, .int .i64 mt, .int .u64 mterm, .int .u64 mix, .int .u64 mlt, .slice ment.1 ment.2.1 ment.2.2, .int .u64 mcm, .int .u64 mrd, .bool mok, .int .i64 moff, .slice mdat.1 mdat.2.1 mdat.2.2, .bool mdone, .int .u64 mcl, .int .u64 msq, .string msql, .int .u64 mrs, .int .i64 mrc, .slice mcols.1 mcols.2.1 mcols.2.2, .slice mrows.1 mrows.2.1 mrows.2.2, .int .i64 mcnt, .int .u64 mridx, .int .i64 mh, .bool right] : List Value).toArray 59)).step hk5 (by simpa using hbw)
              have hkw5 : Keeps [b] wr w5 := hkS.of_nil.trans hk5
              clear hBk hRk hS hcS hkS hk5
              go_wp2_with (refine wpList_store_fresh rfl rfl _ _ _ rfl _ rfl rfl _ rfl _ _ Tryd.sizeM (by simp) rfl ?_)
              refine (CB.out _ (hR5.alloc _)).mono ?_
              rintro e w6 ⟨rfl, hR6, hk6⟩
              as_aux_lemma =>
              have hB6 := (hB5.alloc (.cells #[.int .i64 (kind), .int .i64 (frm), .int .i64 (to'), .int .u64 0, .int .u64 0, .int .u64 0, .slice none 0 0, .int .u64 0, .int .u64 0, .bool (false), .int .i64 0, .slice none 0 0, .bool false, .int .u64 (cl), .int .u64 (sq), .string (ms), .int .u64 0, .int .i64 0, .slice none 0 0, .slice none 0 0, .int .i64 0, .int .u64 0, .int .i64 0] 40)).keep hk6 (by simpa using hbr)
              have hX6 := (Blk.fresh w5 40 #[.int .i64 (kind), .int .i64 (frm), .int .i64 (to'), .int .u64 0, .int .u64 0, .int .u64 0, .slice none 0 0, .int .u64 0, .int .u64 0, .bool (false), .int .i64 0, .slice none 0 0, .bool false, .int .u64 (cl), .int .u64 (sq), .string (ms), .int .u64 0, .int .i64 0, .slice none 0 0, .slice none 0 0, .int .i64 0, .int .u64 0, .int .i64 0]).keep hk6 (by have := hR5.lt; simp; omega)
              have hE6 := ErrIs.keepR (hE5.keep ((Keeps.refl [] w5).alloc (.cells #[.int .i64 (kind), .int .i64 (frm), .int .i64 (to'), .int .u64 0, .int .u64 0, .int .u64 0, .slice none 0 0, .int .u64 0, .int .u64 0, .bool (false), .int .i64 0, .slice none 0 0, .bool false, .int .u64 (cl), .int .u64 (sq), .string (ms), .int .u64 0, .int .i64 0, .slice none 0 0, .slice none 0 0, .int .i64 0, .int .u64 0, .int .i64 0] 40))) (hR5.alloc _) hk6
              have hk06 := (hk05.alloc (.cells #[.int .i64 (kind), .int .i64 (frm), .int .i64 (to'), .int .u64 0, .int .u64 0, .int .u64 0, .slice none 0 0, .int .u64 0, .int .u64 0, .bool (false), .int .i64 0, .slice none 0 0, .bool false, .int .u64 (cl), .int .u64 (sq), .string (ms), .int .u64 0, .int .i64 0, .slice none 0 0, .slice none 0 0, .int .i64 0, .int .u64 0, .int .i64 0] 40)).step hk6 (by simpa using hrw)
              clear hcS5 hlS5 hkw5 hk05 hB5 hR5 hk6 hE5
              have hE7 := hE6.keep ((Keeps.refl [] w6).alloc (.cells #[.int .i64 (kind), .int .i64 (frm), .int .i64 (to'), .int .u64 0, .int .u64 0, .int .u64 0, .slice none 0 0, .int .u64 0, .int .u64 0, .bool (false), .int .i64 0, .slice none 0 0, .bool false, .int .u64 (cl), .int .u64 (sq), .string (ms), .int .u64 0, .int .i64 0, .slice none 0 0, .slice none 0 0, .int .i64 0, .int .u64 0, .int .i64 0] 40))
              have hg7 : (w6.alloc (.cells #[.int .i64 (kind), .int .i64 (frm), .int .i64 (to'), .int .u64 0, .int .u64 0, .int .u64 0, .slice none 0 0, .int .u64 0, .int .u64 0, .bool (false), .int .i64 0, .slice none 0 0, .bool false, .int .u64 (cl), .int .u64 (sq), .string (ms), .int .u64 0, .int .i64 0, .slice none 0 0, .slice none 0 0, .int .i64 0, .int .u64 0, .int .i64 0] 40)).cell? ⟨0, 0, none⟩ = some (.iface 100 (.agg #[.pointer (some ⟨1, 26, none⟩)])) := (hk06.alloc _).cellSome hg (by simp)
              have hX7 := hX6.alloc (.cells #[.int .i64 (kind), .int .i64 (frm), .int .i64 (to'), .int .u64 0, .int .u64 0, .int .u64 0, .slice none 0 0, .int .u64 0, .int .u64 0, .bool (false), .int .i64 0, .slice none 0 0, .bool false, .int .u64 (cl), .int .u64 (sq), .string (ms), .int .u64 0, .int .i64 0, .slice none 0 0, .slice none 0 0, .int .i64 0, .int .u64 0, .int .i64 0] 40)
              have hY7 := Blk.fresh w6 40 #[.int .i64 (kind), .int .i64 (frm), .int .i64 (to'), .int .u64 0, .int .u64 0, .int .u64 0, .slice none 0 0, .int .u64 0, .int .u64 0, .bool (false), .int .i64 0, .slice none 0 0, .bool false, .int .u64 (cl), .int .u64 (sq), .string (ms), .int .u64 0, .int .i64 0, .slice none 0 0, .slice none 0 0, .int .i64 0, .int .u64 0, .int .i64 0]
              have hB7 := hB6.alloc (.cells #[.int .i64 (kind), .int .i64 (frm), .int .i64 (to'), .int .u64 0, .int .u64 0, .int .u64 0, .slice none 0 0, .int .u64 0, .int .u64 0, .bool (false), .int .i64 0, .slice none 0 0, .bool false, .int .u64 (cl), .int .u64 (sq), .string (ms), .int .u64 0, .int .i64 0, .slice none 0 0, .slice none 0 0, .int .i64 0, .int .u64 0, .int .i64 0] 40)
              have hR7 := hR6.alloc (.cells #[.int .i64 (kind), .int .i64 (frm), .int .i64 (to'), .int .u64 0, .int .u64 0, .int .u64 0, .slice none 0 0, .int .u64 0, .int .u64 0, .bool (false), .int .i64 0, .slice none 0 0, .bool false, .int .u64 (cl), .int .u64 (sq), .string (ms), .int .u64 0, .int .i64 0, .slice none 0 0, .slice none 0 0, .int .i64 0, .int .u64 0, .int .i64 0] 40)
              have hk07 := hk06.alloc (.cells #[.int .i64 (kind), .int .i64 (frm), .int .i64 (to'), .int .u64 0, .int .u64 0, .int .u64 0, .slice none 0 0, .int .u64 0, .int .u64 0, .bool (false), .int .i64 0, .slice none 0 0, .bool false, .int .u64 (cl), .int .u64 (sq), .string (ms), .int .u64 0, .int .i64 0, .slice none 0 0, .slice none 0 0, .int .i64 0, .int .u64 0, .int .i64 0] 40)
              clear hE6 hB6 hR6 hX6 hk06
              go_wp2_with (refine wpList_store_fresh rfl rfl _ _ _ rfl _ rfl rfl _ rfl _ _ Tryd.sizeM (by simp) rfl ?_)
              refine (class_any _ f _ hg7 hE7).mono ?_
              rintro e w8 ⟨rfl, hk8⟩
              as_aux_lemma =>
              replace hX7 := hX7.keep hk8 (by simp)
              replace hY7 := hY7.keep hk8 (by simp)
              replace hB7 := hB7.keep hk8 (by simp)
              replace hR7 := hR7.keep hk8 (by simp)
              replace hk07 := hk07.trans hk8
              clear hE7 hg7 hk8
              go_wp2_with (first | (refine wpList_load_aggG rfl _ _ rfl w5.heap.size 0 23 rfl 40 _ _ hX7 Tryd.underlying40 rfl Tryd.sizeM (by simp) #[.int .i64 (kind), .int .i64 (frm), .int .i64 (to'), .int .u64 0, .int .u64 0, .int .u64 0, .slice none 0 0, .int .u64 0, .int .u64 0, .bool (false), .int .i64 0, .slice none 0 0, .bool false, .int .u64 (cl), .int .u64 (sq), .string (ms), .int .u64 0, .int .i64 0, .slice none 0 0, .slice none 0 0, .int .i64 0, .int .u64 0, .int .i64 0] rfl ?_) | (refine wpList_load_aggG rfl _ _ rfl w6.heap.size 0 23 rfl 40 _ _ hY7 Tryd.underlying40 rfl Tryd.sizeM (by simp) #[.int .i64 (kind), .int .i64 (frm), .int .i64 (to'), .int .u64 0, .int .u64 0, .int .u64 0, .slice none 0 0, .int .u64 0, .int .u64 0, .bool (false), .int .i64 0, .slice none 0 0, .bool false, .int .u64 (cl), .int .u64 (sq), .string (ms), .int .u64 0, .int .i64 0, .slice none 0 0, .slice none 0 0, .int .i64 0, .int .u64 0, .int .i64 0] rfl ?_))
              refine (same_any kind frm to' cl sq ms _).mono ?_
              rintro e w9 ⟨rfl, hk9⟩
              go_wp2_with fail
              go_meet
              exact ⟨rfl, tgt, s', sql', wt', tk', rs, rc, cols, rows, cnt, idx, sm, hg0, hg1, by omega, by omega, e3, e4, HC.out, HR.out, hB7.keep hk9 (by simp), hR7.keep hk9 (by simp), hk07.trans hk9⟩
          · go_upto_if 134 with (fail)
            go_cut [134] (fun v wx => v = .bool false ∧ wx = wr.alloc (.cells ([.int .i64 wh, .string q, .int .i64 mk, .int .i64 mf, .int .i64 mt, .int .u64 mterm, .int .u64 mix, .int .u64 mlt, .slice ment.1 ment.2.1 ment.2.2, .int .u64 mcm, .int .u64 mrd, .bool mok, .int .i64 moff, .slice mdat.1 mdat.2.1 mdat.2.2, .bool mdone, .int .u64 mcl, .int .u64 msq, .string msql, .int .u64 mrs, .int .i64 mrc, .slice mcols.1 mcols.2.1 mcols.2.2, .slice mrows.1 mrows.2.1 mrows.2.2, .int .i64 mcnt, .int .u64 mridx, .int .i64 mh, .bool right] : List Value).toArray 59))
            case first =>
              go_wp2_with fail
              all_goals (go_meet; exact ⟨congrArg Value.bool (Bool.eq_iff_iff.mpr (by simp only [beq_iff_eq, decide_eq_true_eq, beq_eq_false_iff_ne, ne_eq, Bool.not_eq_true, iff_true, iff_false, Bool.false_eq_true] at *; omega)), rfl⟩)
            case rest =>
              obtain ⟨rfl, rfl⟩ := hcut
              as_aux_lemma =>
              by_cases hT : 2 ≤ wh ∧ wh ≤ 6
              · obtain ⟨kind, frm, to', cl, sq, ms, p, tgt', tk', e1, e2, e3, e4, cA, cB⟩ := tick_both b r num n tgt s sql wt tk rs rc cols rows cnt idx sm v0 v1 (by omega) (by omega) hg0 hg1 ht0 ht1
                have CA := Lib.hid cA
                have CB := Lib.hid cB
                clear cA cB
                go_upto_if 160 with (fail)
                go_cut [160] (fun v wx => v = .bool true ∧ wx = wr.alloc (.cells ([.int .i64 wh, .string q, .int .i64 mk, .int .i64 mf, .int .i64 mt, .int .u64 mterm, .int .u64 mix, .int .u64 mlt, .slice ment.1 ment.2.1 ment.2.2, .int .u64 mcm, .int .u64 mrd, .bool mok, .int .i64 moff, .slice mdat.1 mdat.2.1 mdat.2.2, .bool mdone, .int .u64 mcl, .int .u64 msq, .string msql, .int .u64 mrs, .int .i64 mrc, .slice mcols.1 mcols.2.1 mcols.2.2, .slice mrows.1 mrows.2.1 mrows.2.2, .int .i64 mcnt, .int .u64 mridx, .int .i64 mh, .bool right] : List Value).toArray 59))
                case first =>
                  go_wp2_with fail
                  all_goals (go_meet; exact ⟨congrArg Value.bool (Bool.eq_iff_iff.mpr (by simp only [beq_iff_eq, decide_eq_true_eq, beq_eq_false_iff_ne, ne_eq, Bool.not_eq_true, iff_true, iff_false, Bool.false_eq_true] at *; omega)), rfl⟩)
                case rest =>
                obtain ⟨rfl, rfl⟩ := hcut
                as_aux_lemma =>
                go_wp2_with fail
                refine (CA.out _ (hBk.alloc _)).mono ?_
                rintro e w5 ⟨rfl, hB5, hk5⟩
                as_aux_lemma =>
                have hR5 := (hRk.alloc (.cells ([.int .i64 wh, .string q, .int .i64 mk, .int .i64 mf, .int .i64 mt, .int .u64 mterm, .int .u64 mix, .int .u64 mlt, .slice ment.1 ment.2.1 ment.2.2, .int .u64 mcm, .int .u64 mrd, .bool mok, .int .i64 moff, .slice mdat.1 mdat.2.1 mdat.2.2, .bool mdone, .int .u64 mcl, .int .u64 msq, .string msql, .int .u64 mrs, .int .i64 mrc, .slice mcols.1 mcols.2.1 mcols.2.2, .slice mrows.1 mrows.2.1 mrows.2.2, .int .i64 mcnt, .int .u64 mridx, .int .i64 mh, .bool right] : List Value).toArray 59)).keep hk5 (by simpa using fun e => hbr e.symm)
                have hk05 := (hkk.alloc (.cells ([.int .i64 wh, .string q, .int .i64 mk, .int .i64 mf, .int .i64 mt, .int .u64 mterm, .int .u64 mix, .int .u64 mlt, .slice ment.1 ment.2.1 ment.2.2, .int .u64 mcm, .int .u64 mrd, .bool mok, .int .i64 moff, .slice mdat.1 mdat.2.1 mdat.2.2, .bool mdone, .int .u64 mcl, .int .u64 msq, .string msql, .int .u64 mrs, .int .i64 mrc, .slice mcols.1 mcols.2.1 mcols.2.2, .slice mrows.1 mrows.2.1 mrows.2.2, .int .i64 mcnt, .int .u64 mridx, .int .i64 mh, .bool right] : List Value).toArray 59)).step hk5 (by simpa using hbw)
                clear hBk hRk hS hcS hkS hk5
                go_wp2_with (refine wpList_store_fresh rfl rfl _ _ _ rfl _ rfl rfl _ rfl _ _ Tryd.sizeM (by simp) rfl ?_)
                refine (CB.out _ (hR5.alloc _)).mono ?_
                rintro e w6 ⟨rfl, hR6, hk6⟩
                as_aux_lemma =>
                have hB6 := (hB5.alloc (.cells #[.int .i64 (kind), .int .i64 (frm), .int .i64 (to'), .int .u64 0, .int .u64 0, .int .u64 0, .slice none 0 0, .int .u64 0, .int .u64 0, .bool (false), .int .i64 0, .slice none 0 0, .bool false, .int .u64 (cl), .int .u64 (sq), .string (ms), .int .u64 0, .int .i64 0, .slice none 0 0, .slice none 0 0, .int .i64 0, .int .u64 0, .int .i64 0] 40)).keep hk6 (by simpa using hbr)
                have hX6 := (Blk.fresh w5 40 #[.int .i64 (kind), .int .i64 (frm), .int .i64 (to'), .int .u64 0, .int .u64 0, .int .u64 0, .slice none 0 0, .int .u64 0, .int .u64 0, .bool (false), .int .i64 0, .slice none 0 0, .bool false, .int .u64 (cl), .int .u64 (sq), .string (ms), .int .u64 0, .int .i64 0, .slice none 0 0, .slice none 0 0, .int .i64 0, .int .u64 0, .int .i64 0]).keep hk6 (by have := hR5.lt; simp; omega)
                have hk06 := (hk05.alloc (.cells #[.int .i64 (kind), .int .i64 (frm), .int .i64 (to'), .int .u64 0, .int .u64 0, .int .u64 0, .slice none 0 0, .int .u64 0, .int .u64 0, .bool (false), .int .i64 0, .slice none 0 0, .bool false, .int .u64 (cl), .int .u64 (sq), .string (ms), .int .u64 0, .int .i64 0, .slice none 0 0, .slice none 0 0, .int .i64 0, .int .u64 0, .int .i64 0] 40)).step hk6 (by simpa using hrw)
                clear hk05 hB5 hR5 hk6
                have hX7 := hX6.alloc (.cells #[.int .i64 (kind), .int .i64 (frm), .int .i64 (to'), .int .u64 0, .int .u64 0, .int .u64 0, .slice none 0 0, .int .u64 0, .int .u64 0, .bool (false), .int .i64 0, .slice none 0 0, .bool false, .int .u64 (cl), .int .u64 (sq), .string (ms), .int .u64 0, .int .i64 0, .slice none 0 0, .slice none 0 0, .int .i64 0, .int .u64 0, .int .i64 0] 40)
                have hY7 := Blk.fresh w6 40 #[.int .i64 (kind), .int .i64 (frm), .int .i64 (to'), .int .u64 0, .int .u64 0, .int .u64 0, .slice none 0 0, .int .u64 0, .int .u64 0, .bool (false), .int .i64 0, .slice none 0 0, .bool false, .int .u64 (cl), .int .u64 (sq), .string (ms), .int .u64 0, .int .i64 0, .slice none 0 0, .slice none 0 0, .int .i64 0, .int .u64 0, .int .i64 0]
                have hB7 := hB6.alloc (.cells #[.int .i64 (kind), .int .i64 (frm), .int .i64 (to'), .int .u64 0, .int .u64 0, .int .u64 0, .slice none 0 0, .int .u64 0, .int .u64 0, .bool (false), .int .i64 0, .slice none 0 0, .bool false, .int .u64 (cl), .int .u64 (sq), .string (ms), .int .u64 0, .int .i64 0, .slice none 0 0, .slice none 0 0, .int .i64 0, .int .u64 0, .int .i64 0] 40)
                have hR7 := hR6.alloc (.cells #[.int .i64 (kind), .int .i64 (frm), .int .i64 (to'), .int .u64 0, .int .u64 0, .int .u64 0, .slice none 0 0, .int .u64 0, .int .u64 0, .bool (false), .int .i64 0, .slice none 0 0, .bool false, .int .u64 (cl), .int .u64 (sq), .string (ms), .int .u64 0, .int .i64 0, .slice none 0 0, .slice none 0 0, .int .i64 0, .int .u64 0, .int .i64 0] 40)
                have hk07 := hk06.alloc (.cells #[.int .i64 (kind), .int .i64 (frm), .int .i64 (to'), .int .u64 0, .int .u64 0, .int .u64 0, .slice none 0 0, .int .u64 0, .int .u64 0, .bool (false), .int .i64 0, .slice none 0 0, .bool false, .int .u64 (cl), .int .u64 (sq), .string (ms), .int .u64 0, .int .i64 0, .slice none 0 0, .slice none 0 0, .int .i64 0, .int .u64 0, .int .i64 0] 40)
                clear hB6 hR6 hX6 hk06
                go_wp2_with (first | refine wpList_store_fresh rfl rfl _ _ _ rfl _ rfl rfl _ rfl _ _ Tryd.sizeM (by simp) rfl ?_ | (refine wpList_load_aggG rfl _ _ rfl w5.heap.size 0 23 rfl 40 _ _ hX7 Tryd.underlying40 rfl Tryd.sizeM (by simp) #[.int .i64 (kind), .int .i64 (frm), .int .i64 (to'), .int .u64 0, .int .u64 0, .int .u64 0, .slice none 0 0, .int .u64 0, .int .u64 0, .bool (false), .int .i64 0, .slice none 0 0, .bool false, .int .u64 (cl), .int .u64 (sq), .string (ms), .int .u64 0, .int .i64 0, .slice none 0 0, .slice none 0 0, .int .i64 0, .int .u64 0, .int .i64 0] rfl ?_) | (refine wpList_load_aggG rfl _ _ rfl w6.heap.size 0 23 rfl 40 _ _ hY7 Tryd.underlying40 rfl Tryd.sizeM (by simp) #[.int .i64 (kind), .int .i64 (frm), .int .i64 (to'), .int .u64 0, .int .u64 0, .int .u64 0, .slice none 0 0, .int .u64 0, .int .u64 0, .bool (false), .int .i64 0, .slice none 0 0, .bool false, .int .u64 (cl), .int .u64 (sq), .string (ms), .int .u64 0, .int .i64 0, .slice none 0 0, .slice none 0 0, .int .i64 0, .int .u64 0, .int .i64 0] rfl ?_))
                refine (same_any kind frm to' cl sq ms _).mono ?_
                rintro e w9 ⟨rfl, hk9⟩
                go_wp2_with fail
                go_meet
                exact ⟨rfl, tgt', s, sql, wt, tk', rs, rc, cols, rows, cnt, idx, sm, e1, e2, by omega, by omega, e3, e4, HC.out, HR.out, hB7.keep hk9 (by simp), hR7.keep hk9 (by simp), hk07.trans hk9⟩
              · have n2 : (wh == 2) = false := by simp; omega
                have n3 : (wh == 3) = false := by simp; omega
                have n4 : (wh == 4) = false := by simp; omega
                have n5 : (wh == 5) = false := by simp; omega
                have n6 : (wh == 6) = false := by simp; omega
                have k1 : IntKind.i64.wrap (100 + num) = 100 + num := IntWalk.i64_in _ (by omega)
                have hBs := hBk.alloc (.cells ([.int .i64 wh, .string q, .int .i64 mk, .int .i64 mf, .int .i64 mt, .int .u64 mterm, .int .u64 mix, .int .u64 mlt, .slice ment.1 ment.2.1 ment.2.2, .int .u64 mcm, .int .u64 mrd, .bool mok, .int .i64 moff, .slice mdat.1 mdat.2.1 mdat.2.2, .bool mdone, .int .u64 mcl, .int .u64 msq, .string msql, .int .u64 mrs, .int .i64 mrc, .slice mcols.1 mcols.2.1 mcols.2.2, .slice mrows.1 mrows.2.1 mrows.2.2, .int .i64 mcnt, .int .u64 mridx, .int .i64 mh, .bool right] : List Value).toArray 59)
                have hRs := hRk.alloc (.cells ([.int .i64 wh, .string q, .int .i64 mk, .int .i64 mf, .int .i64 mt, .int .u64 mterm, .int .u64 mix, .int .u64 mlt, .slice ment.1 ment.2.1 ment.2.2, .int .u64 mcm, .int .u64 mrd, .bool mok, .int .i64 moff, .slice mdat.1 mdat.2.1 mdat.2.2, .bool mdone, .int .u64 mcl, .int .u64 msq, .string msql, .int .u64 mrs, .int .i64 mrc, .slice mcols.1 mcols.2.1 mcols.2.2, .slice mrows.1 mrows.2.1 mrows.2.2, .int .i64 mcnt, .int .u64 mridx, .int .i64 mh, .bool right] : List Value).toArray 59)
                have hks := hkk.alloc (.cells ([.int .i64 wh, .string q, .int .i64 mk, .int .i64 mf, .int .i64 mt, .int .u64 mterm, .int .u64 mix, .int .u64 mlt, .slice ment.1 ment.2.1 ment.2.2, .int .u64 mcm, .int .u64 mrd, .bool mok, .int .i64 moff, .slice mdat.1 mdat.2.1 mdat.2.2, .bool mdone, .int .u64 mcl, .int .u64 msq, .string msql, .int .u64 mrs, .int .i64 mrc, .slice mcols.1 mcols.2.1 mcols.2.2, .slice mrows.1 mrows.2.1 mrows.2.2, .int .i64 mcnt, .int .u64 mridx, .int .i64 mh, .bool right] : List Value).toArray 59)
                clear hBk hRk hkk hcS hkS
                generalize hWS : wr.alloc (.cells ([.int .i64 wh, .string q, .int .i64 mk, .int .i64 mf, .int .i64 mt, .int .u64 mterm, .int .u64 mix, .int .u64 mlt, .slice ment.1 ment.2.1 ment.2.2, .int .u64 mcm, .int .u64 mrd, .bool mok, .int .i64 moff, .slice mdat.1 mdat.2.1 mdat.2.2, .bool mdone, .int .u64 mcl, .int .u64 msq, .string msql, .int .u64 mrs, .int .i64 mrc, .slice mcols.1 mcols.2.1 mcols.2.2, .slice mrows.1 mrows.2.1 mrows.2.2, .int .i64 mcnt, .int .u64 mridx, .int .i64 mh, .bool right] : List Value).toArray 59) = wS at *
                clear hWS
                have hcS := hS.cell
                have hlB := hBs.lt
                have hlR := hRs.lt
                have hlS := hS.lt
                go_upto_if 97 with (first | (refine wpList_load_agg rfl _ _ rfl wr.heap.size 2 23 rfl 59 _ _ hS Tryd.underlying40 rfl Tryd.sizeM (by simp) #[.int .i64 mk, .int .i64 mf, .int .i64 mt, .int .u64 mterm, .int .u64 mix, .int .u64 mlt, .slice ment.1 ment.2.1 ment.2.2, .int .u64 mcm, .int .u64 mrd, .bool mok, .int .i64 moff, .slice mdat.1 mdat.2.1 mdat.2.2, .bool mdone, .int .u64 mcl, .int .u64 msq, .string msql, .int .u64 mrs, .int .i64 mrc, .slice mcols.1 mcols.2.1 mcols.2.2, .slice mrows.1 mrows.2.1 mrows.2.2, .int .i64 mcnt, .int .u64 mridx, .int .i64 mh] rfl ?_) | refine wpList_store_fresh rfl rfl _ _ _ rfl _ rfl rfl _ rfl _ _ Tryd.sizeM (by simp) rfl ?_)
                have hMM := Blk.fresh wS 40 #[.int .i64 mk, .int .i64 mf, .int .i64 mt, .int .u64 mterm, .int .u64 mix, .int .u64 mlt, .slice ment.1 ment.2.1 ment.2.2, .int .u64 mcm, .int .u64 mrd, .bool mok, .int .i64 moff, .slice mdat.1 mdat.2.1 mdat.2.2, .bool mdone, .int .u64 mcl, .int .u64 msq, .string msql, .int .u64 mrs, .int .i64 mrc, .slice mcols.1 mcols.2.1 mcols.2.2, .slice mrows.1 mrows.2.1 mrows.2.2, .int .i64 mcnt, .int .u64 mridx, .int .i64 mh]
                have hRM := hRs.alloc (.cells #[.int .i64 mk, .int .i64 mf, .int .i64 mt, .int .u64 mterm, .int .u64 mix, .int .u64 mlt, .slice ment.1 ment.2.1 ment.2.2, .int .u64 mcm, .int .u64 mrd, .bool mok, .int .i64 moff, .slice mdat.1 mdat.2.1 mdat.2.2, .bool mdone, .int .u64 mcl, .int .u64 msq, .string msql, .int .u64 mrs, .int .i64 mrc, .slice mcols.1 mcols.2.1 mcols.2.2, .slice mrows.1 mrows.2.1 mrows.2.2, .int .i64 mcnt, .int .u64 mridx, .int .i64 mh] 40)
                have hBM := hBs.alloc (.cells #[.int .i64 mk, .int .i64 mf, .int .i64 mt, .int .u64 mterm, .int .u64 mix, .int .u64 mlt, .slice ment.1 ment.2.1 ment.2.2, .int .u64 mcm, .int .u64 mrd, .bool mok, .int .i64 moff, .slice mdat.1 mdat.2.1 mdat.2.2, .bool mdone, .int .u64 mcl, .int .u64 msq, .string msql, .int .u64 mrs, .int .i64 mrc, .slice mcols.1 mcols.2.1 mcols.2.2, .slice mrows.1 mrows.2.1 mrows.2.2, .int .i64 mcnt, .int .u64 mridx, .int .i64 mh] 40)
                have hkM := hks.alloc (.cells #[.int .i64 mk, .int .i64 mf, .int .i64 mt, .int .u64 mterm, .int .u64 mix, .int .u64 mlt, .slice ment.1 ment.2.1 ment.2.2, .int .u64 mcm, .int .u64 mrd, .bool mok, .int .i64 moff, .slice mdat.1 mdat.2.1 mdat.2.2, .bool mdone, .int .u64 mcl, .int .u64 msq, .string msql, .int .u64 mrs, .int .i64 mrc, .slice mcols.1 mcols.2.1 mcols.2.2, .slice mrows.1 mrows.2.1 mrows.2.2, .int .i64 mcnt, .int .u64 mridx, .int .i64 mh] 40)
                go_cut [] (fun wx => ∃ mk' mt' msq' : Int, Blk wx wS.heap.size 40 #[.int .i64 mk', .int .i64 mf, .int .i64 mt', .int .u64 mterm, .int .u64 mix, .int .u64 mlt, .slice ment.1 ment.2.1 ment.2.2, .int .u64 mcm, .int .u64 mrd, .bool mok, .int .i64 moff, .slice mdat.1 mdat.2.1 mdat.2.2, .bool mdone, .int .u64 mcl, .int .u64 msq', .string msql, .int .u64 mrs, .int .i64 mrc, .slice mcols.1 mcols.2.1 mcols.2.2, .slice mrows.1 mrows.2.1 mrows.2.2, .int .i64 mcnt, .int .u64 mridx, .int .i64 mh] ∧ Blk wx b 73 #[.int .i64 (num), .int .i64 (n), .int .i64 (tgt), .int .u64 (s), .string (sql), .bool (wt), .int .i64 (tk), .int .u64 (rs), .int .i64 (rc), .slice (cols).1 (cols).2.1 (cols).2.2, .slice (rows).1 (rows).2.1 (rows).2.2, .int .i64 (cnt), .int .u64 (idx), .bool (sm)] ∧ Blk wx r 64 #[.int .i64 (num), .int .i64 (n), .int .i64 (tgt), .int .u64 (s + 1), .bool (wt), .int .u64 (s), .string (sql), .int .i64 (tk), .int .u64 (rs), .int .i64 (rc), .slice (cols).1 (cols).2.1 (cols).2.2, .slice (rows).1 (rows).2.1 (rows).2.2, .int .i64 (cnt), .int .u64 (idx), .bool (sm)] ∧ Keeps [] w wx)
                case first =>
                  have hcR := hRs.cell
                  have hcM := hMM.cell
                  have hfM := hMM.free
                  have hlM := hMM.lt
                  go_wp2_with fail
                  all_goals first
                    | (go_meet; exact ⟨mk, mt, msq, hMM, hBM, hRM, hkM⟩)
                    | (go_region; go_wp2_with fail; go_meet; exact ⟨8, 100 + num, s, (Blk.fresh wS 40 (#[.int .i64 8, .int .i64 mf, .int .i64 (100 + num), .int .u64 mterm, .int .u64 mix, .int .u64 mlt, .slice ment.1 ment.2.1 ment.2.2, .int .u64 mcm, .int .u64 mrd, .bool mok, .int .i64 moff, .slice mdat.1 mdat.2.1 mdat.2.2, .bool mdone, .int .u64 mcl, .int .u64 s, .string msql, .int .u64 mrs, .int .i64 mrc, .slice mcols.1 mcols.2.1 mcols.2.2, .slice mrows.1 mrows.2.1 mrows.2.2, .int .i64 mcnt, .int .u64 mridx, .int .i64 mh] : Array Value)).drew, (hBs.alloc _).drew, (hRs.alloc _).drew, (hks.alloc _).drew⟩)
                case rest =>
                  obtain ⟨mk', mt', msq', hM4, hB4, hR4, hk4⟩ := hcut
                  as_aux_lemma =>
                  obtain ⟨kind, frm, to', cl, sq, ms, p, a, tgt', wt', tk', rs', rc', cols', rows', cnt', idx', sm', e1, e2, e3, e4, e5, cA, cB⟩ := recv_both b r num n tgt s sql wt tk rs rc cols rows cnt idx sm mk' mf mt' mterm mix mlt ment mcm mrd mok moff mdat mdone mcl msq' msql mrs mrc mcols mrows mcnt mridx mh v0 v1 (by omega) (by omega) hg0 hg1 ht0 ht1
                  have CA := Lib.hid cA
                  have CB := Lib.hid cB
                  have E5 := Lib.hid e5
                  clear cA cB e5 hMM hRM hBM hkM hcS hS hBs hRs hks
                  go_wp2_with ((refine wpList_load_agg rfl _ _ rfl wS.heap.size 0 23 rfl 40 _ _ hM4 Tryd.underlying40 rfl Tryd.sizeM (by simp) #[.int .i64 mk', .int .i64 mf, .int .i64 mt', .int .u64 mterm, .int .u64 mix, .int .u64 mlt, .slice ment.1 ment.2.1 ment.2.2, .int .u64 mcm, .int .u64 mrd, .bool mok, .int .i64 moff, .slice mdat.1 mdat.2.1 mdat.2.2, .bool mdone, .int .u64 mcl, .int .u64 msq', .string msql, .int .u64 mrs, .int .i64 mrc, .slice mcols.1 mcols.2.1 mcols.2.2, .slice mrows.1 mrows.2.1 mrows.2.2, .int .i64 mcnt, .int .u64 mridx, .int .i64 mh] rfl ?_))
                  refine (CA.out _ hB4).mono ?_
                  rintro e w5 ⟨rfl, hB5, hk5⟩
                  as_aux_lemma =>
                  have hR5 := (hR4.keep hk5 (by simpa using fun e => hbr e.symm)).alloc (.cells #[.int .i64 (kind), .int .i64 (frm), .int .i64 (to'), .int .u64 0, .int .u64 0, .int .u64 0, .slice none 0 0, .int .u64 0, .int .u64 0, .bool (false), .int .i64 0, .slice none 0 0, .bool false, .int .u64 (cl), .int .u64 (sq), .string (ms), .int .u64 0, .int .i64 0, .slice none 0 0, .slice none 0 0, .int .i64 0, .int .u64 0, .int .i64 0] 40)
                  have hM5 := (hM4.keep hk5 (by simp; omega)).alloc (.cells #[.int .i64 (kind), .int .i64 (frm), .int .i64 (to'), .int .u64 0, .int .u64 0, .int .u64 0, .slice none 0 0, .int .u64 0, .int .u64 0, .bool (false), .int .i64 0, .slice none 0 0, .bool false, .int .u64 (cl), .int .u64 (sq), .string (ms), .int .u64 0, .int .i64 0, .slice none 0 0, .slice none 0 0, .int .i64 0, .int .u64 0, .int .i64 0] 40)
                  have hk05 := (hk4.step hk5 (by simpa using hbw)).alloc (.cells #[.int .i64 (kind), .int .i64 (frm), .int .i64 (to'), .int .u64 0, .int .u64 0, .int .u64 0, .slice none 0 0, .int .u64 0, .int .u64 0, .bool (false), .int .i64 0, .slice none 0 0, .bool false, .int .u64 (cl), .int .u64 (sq), .string (ms), .int .u64 0, .int .i64 0, .slice none 0 0, .slice none 0 0, .int .i64 0, .int .u64 0, .int .i64 0] 40)
                  have hB5' := hB5.alloc (.cells #[.int .i64 (kind), .int .i64 (frm), .int .i64 (to'), .int .u64 0, .int .u64 0, .int .u64 0, .slice none 0 0, .int .u64 0, .int .u64 0, .bool (false), .int .i64 0, .slice none 0 0, .bool false, .int .u64 (cl), .int .u64 (sq), .string (ms), .int .u64 0, .int .i64 0, .slice none 0 0, .slice none 0 0, .int .i64 0, .int .u64 0, .int .i64 0] 40)
                  have hX5 := Blk.fresh w5 40 #[.int .i64 (kind), .int .i64 (frm), .int .i64 (to'), .int .u64 0, .int .u64 0, .int .u64 0, .slice none 0 0, .int .u64 0, .int .u64 0, .bool (false), .int .i64 0, .slice none 0 0, .bool false, .int .u64 (cl), .int .u64 (sq), .string (ms), .int .u64 0, .int .i64 0, .slice none 0 0, .slice none 0 0, .int .i64 0, .int .u64 0, .int .i64 0]
                  have hl5 : r < w5.heap.size := by have := hk5.size; have := hR4.lt; omega
                  clear hk5 hM4 hB4 hR4 hk4 hB5
                  go_wp2_with (first | refine wpList_store_fresh rfl rfl _ _ _ rfl _ rfl rfl _ rfl _ _ Tryd.sizeM (by simp) rfl ?_ | (refine wpList_load_agg rfl _ _ rfl wS.heap.size 0 23 rfl 40 _ _ hM5 Tryd.underlying40 rfl Tryd.sizeM (by simp) #[.int .i64 mk', .int .i64 mf, .int .i64 mt', .int .u64 mterm, .int .u64 mix, .int .u64 mlt, .slice ment.1 ment.2.1 ment.2.2, .int .u64 mcm, .int .u64 mrd, .bool mok, .int .i64 moff, .slice mdat.1 mdat.2.1 mdat.2.2, .bool mdone, .int .u64 mcl, .int .u64 msq', .string msql, .int .u64 mrs, .int .i64 mrc, .slice mcols.1 mcols.2.1 mcols.2.2, .slice mrows.1 mrows.2.1 mrows.2.2, .int .i64 mcnt, .int .u64 mridx, .int .i64 mh] rfl ?_))
                  refine (CB.out _ hR5).mono ?_
                  rintro e w6 ⟨rfl, hR6, hk6⟩
                  as_aux_lemma =>
                  have hB7 := (hB5'.keep hk6 (by simpa using hbr)).alloc (.cells #[.int .i64 (kind), .int .i64 (frm), .int .i64 (to'), .int .u64 0, .int .u64 0, .int .u64 0, .slice none 0 0, .int .u64 0, .int .u64 0, .bool (false), .int .i64 0, .slice none 0 0, .bool false, .int .u64 (cl), .int .u64 (sq), .string (ms), .int .u64 0, .int .i64 0, .slice none 0 0, .slice none 0 0, .int .i64 0, .int .u64 0, .int .i64 0] 40)
                  have hX7 := (hX5.keep hk6 (by simp; omega)).alloc (.cells #[.int .i64 (kind), .int .i64 (frm), .int .i64 (to'), .int .u64 0, .int .u64 0, .int .u64 0, .slice none 0 0, .int .u64 0, .int .u64 0, .bool (false), .int .i64 0, .slice none 0 0, .bool false, .int .u64 (cl), .int .u64 (sq), .string (ms), .int .u64 0, .int .i64 0, .slice none 0 0, .slice none 0 0, .int .i64 0, .int .u64 0, .int .i64 0] 40)
                  have hY7 := Blk.fresh w6 40 #[.int .i64 (kind), .int .i64 (frm), .int .i64 (to'), .int .u64 0, .int .u64 0, .int .u64 0, .slice none 0 0, .int .u64 0, .int .u64 0, .bool (false), .int .i64 0, .slice none 0 0, .bool false, .int .u64 (cl), .int .u64 (sq), .string (ms), .int .u64 0, .int .i64 0, .slice none 0 0, .slice none 0 0, .int .i64 0, .int .u64 0, .int .i64 0]
                  have hR7 := hR6.alloc (.cells #[.int .i64 (kind), .int .i64 (frm), .int .i64 (to'), .int .u64 0, .int .u64 0, .int .u64 0, .slice none 0 0, .int .u64 0, .int .u64 0, .bool (false), .int .i64 0, .slice none 0 0, .bool false, .int .u64 (cl), .int .u64 (sq), .string (ms), .int .u64 0, .int .i64 0, .slice none 0 0, .slice none 0 0, .int .i64 0, .int .u64 0, .int .i64 0] 40)
                  have hk07 := (hk05.step hk6 (by simpa using hrw)).alloc (.cells #[.int .i64 (kind), .int .i64 (frm), .int .i64 (to'), .int .u64 0, .int .u64 0, .int .u64 0, .slice none 0 0, .int .u64 0, .int .u64 0, .bool (false), .int .i64 0, .slice none 0 0, .bool false, .int .u64 (cl), .int .u64 (sq), .string (ms), .int .u64 0, .int .i64 0, .slice none 0 0, .slice none 0 0, .int .i64 0, .int .u64 0, .int .i64 0] 40)
                  clear hk05 hB5' hX5 hR5 hM5 hk6 hR6
                  go_wp2_with (first | refine wpList_store_fresh rfl rfl _ _ _ rfl _ rfl rfl _ rfl _ _ Tryd.sizeM (by simp) rfl ?_ | (refine wpList_load_aggG rfl _ _ rfl w5.heap.size 0 23 rfl 40 _ _ hX7 Tryd.underlying40 rfl Tryd.sizeM (by simp) #[.int .i64 (kind), .int .i64 (frm), .int .i64 (to'), .int .u64 0, .int .u64 0, .int .u64 0, .slice none 0 0, .int .u64 0, .int .u64 0, .bool (false), .int .i64 0, .slice none 0 0, .bool false, .int .u64 (cl), .int .u64 (sq), .string (ms), .int .u64 0, .int .i64 0, .slice none 0 0, .slice none 0 0, .int .i64 0, .int .u64 0, .int .i64 0] rfl ?_) | (refine wpList_load_aggG rfl _ _ rfl w6.heap.size 0 23 rfl 40 _ _ hY7 Tryd.underlying40 rfl Tryd.sizeM (by simp) #[.int .i64 (kind), .int .i64 (frm), .int .i64 (to'), .int .u64 0, .int .u64 0, .int .u64 0, .slice none 0 0, .int .u64 0, .int .u64 0, .bool (false), .int .i64 0, .slice none 0 0, .bool false, .int .u64 (cl), .int .u64 (sq), .string (ms), .int .u64 0, .int .i64 0, .slice none 0 0, .slice none 0 0, .int .i64 0, .int .u64 0, .int .i64 0] rfl ?_))
                  refine (same_any kind frm to' cl sq ms _).mono ?_
                  rintro e w9 ⟨rfl, hk9⟩
                  go_wp2_with fail
                  go_meet
                  have hC' : TextsIn w cols' := E5.out.elim (fun h => h.1 ▸ HC.out) (fun h => h.1 ▸ HMC.out)
                  have hR' : RowsIn w rows' := E5.out.elim (fun h => h.2 ▸ HR.out) (fun h => h.2 ▸ HMR.out)
                  exact ⟨rfl, tgt', s, sql, wt', tk', rs', rc', cols', rows', cnt', idx', sm', e1, e2, by omega, by omega, e3, e4, hC', hR', hB7.keep hk9 (by simp), hR7.keep hk9 (by simp), hk07.trans hk9⟩
        case rest =>
          as_aux_lemma =>
          obtain ⟨rfl, tgt', s', sql', wt', tk', rs', rc', cols', rows', cnt', idx', sm', g0, g1, q0, q1, u0, u1, hC', hR', hB9, hR9, hk9⟩ := hcut
          clear hBk hRk hkk hS hcS hkS HL HMC HMR HC HR
          have HC := Lib.hid hC'
          have HR := Lib.hid hR'
          clear hC' hR'
          have W1 := waits_any b num n tgt' s' sql' wt' tk' rs' rc' cols' rows' cnt' idx' sm' wc hB9
          have W2 := rwaits_any r num n tgt' (s' + 1) wt' s' sql' tk' rs' rc' cols' rows' cnt' idx' sm' wc hR9
          generalize (if wt' = true then s' else 0) = z at W1 W2
          go_wp2_with fail
          refine W1.mono ?_
          rintro e w' ⟨rfl, rfl⟩
          go_wp2_with fail
          refine W2.mono ?_
          rintro e w' ⟨rfl, rfl⟩
          clear W1 W2
          go_wp2_with fail
          refine (reply_any b num n tgt' s' sql' wt' tk' rs' rc' cols' rows' cnt' idx' sm' _ hB9).mono ?_
          rintro e wA ⟨rfl, hkA⟩
          have hBA := (hB9.keep hkA (by simp)).alloc (.cells #[.int .u64 (rs'), .int .i64 (rc'), .slice (cols').1 (cols').2.1 (cols').2.2, .slice (rows').1 (rows').2.1 (rows').2.2, .int .i64 (cnt'), .int .u64 (idx')] 38)
          have hRA := (hR9.keep hkA (by simp)).alloc (.cells #[.int .u64 (rs'), .int .i64 (rc'), .slice (cols').1 (cols').2.1 (cols').2.2, .slice (rows').1 (rows').2.1 (rows').2.2, .int .i64 (cnt'), .int .u64 (idx')] 38)
          have hXA := Blk.fresh wA 38 #[.int .u64 (rs'), .int .i64 (rc'), .slice (cols').1 (cols').2.1 (cols').2.2, .slice (rows').1 (rows').2.1 (rows').2.2, .int .i64 (cnt'), .int .u64 (idx')]
          have hkZ := (hk9.trans hkA).alloc (.cells #[.int .u64 (rs'), .int .i64 (rc'), .slice (cols').1 (cols').2.1 (cols').2.2, .slice (rows').1 (rows').2.1 (rows').2.2, .int .i64 (cnt'), .int .u64 (idx')] 38)
          clear hB9 hR9 hk9 hkA
          have hcX := hXA.cell
          have hcR := hRA.cell
          go_wp2_with (refine wpList_store_fresh rfl rfl _ _ _ rfl _ rfl rfl _ rfl _ _ Tryd.sizeR (by simp) rfl ?_)
          refine wp_region_still_tail 67 (by kernel_rfl) (by kernel_rfl) ?_
          change wpStill _ _ (World.drew _) _ _ _
          simp only [List.append_eq, List.cons_append, List.nil_append, List.take_succ_cons, List.take_zero, List.drop_succ_cons, List.drop_zero]
          as_aux_lemma =>
          repeat still_step
          as_aux_lemma =>
          still_call (target_same b num n tgt' s' sql' wt' tk' rs' rc' cols' rows' cnt' idx' sm' _ hBA.drew)
          repeat still_step
          as_aux_lemma =>
          refine wpStill_nil ?_
          change wpList _ _ _ _ _ (World.drew _)
          replace hBA := hBA.drew
          replace hRA := hRA.drew
          replace hkZ := hkZ.drew
          go_wp2_with fail
          refine (answers_same cols' rows' cnt' _ (HC.out.keep hkZ) (HR.out.keep hkZ)).mono ?_
          rintro e wZ ⟨rfl, hkY⟩
          replace hBA := hBA.keep hkY (by simp)
          replace hRA := hRA.keep hkY (by simp)
          replace hkZ := hkZ.trans hkY
          clear hkY hXA hcX hcR
          go_wp2_with fail
          go_roundw
          case rel => exact ⟨k + 1, tgt', s', sql', wt', tk', rs', rc', cols', rows', cnt', idx', sm', by omega, by go_num, g0, g1, q0, by omega, u0, u1, HC.out, HR.out, hBA, hRA, hkZ⟩
          case measure => simp [intOf]; omega
      · go_wp2
        go_ret
        exact ⟨rfl, hkk⟩
end Go.Proofs.YtpkjcdmeabjifaaDoor
