/- LogMatches: the walk. -/
import Derived.Test.YtahdclnflpkbcaaDoorLogG
import Derived.Test.YtahdclnflpkbcaaDoorLogP
import Derived.Test.YtahdclnflpkbcaaDoorLogS

namespace Go.Proofs.YtahdclnflpkbcaaDoor
open Go.RowKit

/-- a Merge of a piece of one log into a beginning of it -/
theorem lmerge_pref (a : Nat) (L : List En) (k f n : Nat) (bo : Option Addr) (m d : Nat) (w : World) (hm : m = ((L.drop f).take n).length) (hL : LogAt w a ⟨0, 0, L.take k⟩) (hT : Sl w 5 bo m d (ens ((L.drop f).take n))) (hk1 : k ≤ L.length) (hf : f ≤ L.length) (hle : L.length ≤ 1000) :
    Calls Tryd.prog 11 #[.pointer (some ⟨a, 0, none⟩), .int .u64 (f : Int), .int .u64 ((⟨0, 0, L⟩ : Lg).at f), .slice bo m d, .int .u64 0] w fun e w' => ∃ (at_ ch : Int) (ev : Value) (k' : Nat), e = .returned (.tuple #[.int .u64 at_, .int .u64 ch, ev]) ∧
      ((ev = .nilIface ∧ at_ = (f : Int) + (m : Int)) ∨ (ErrIs w' ev 52 ∧ ev ≠ .nilIface ∧ at_ = (k' : Int))) ∧ k ≤ k' ∧ k' ≤ L.length ∧ LogAt w' a ⟨0, 0, L.take k'⟩ ∧ Keeps [a] w w' := by
  have hlast : (⟨0, 0, L.take k⟩ : Lg).last = (k : Int) := by simp [Lg.last]; omega
  by_cases hfk : k < f
  · refine (lmerge_no a ⟨0, 0, L.take k⟩ f _ 0 (k : Int) bo m d w hL (by simp) (fun w' h' => by rw [← hlast]; exact llacks_a a _ f _ w' h' (Int.le_refl _) (by omega) (by omega))).mono ?_
    rintro e w' ⟨ev, rfl, hE, hne, hk⟩
    exact ⟨_, _, _, k, rfl, .inr ⟨hE, hne, rfl⟩, by omega, hk1, hL.keep0 hk, hk.of_nil⟩
  · have hat : (⟨0, 0, L.take k⟩ : Lg).at f = (⟨0, 0, L⟩ : Lg).at f := by
      rcases Nat.eq_zero_or_pos f with rfl | h
      · rfl
      · exact at_take L k f (by omega) (by omega)
    have hlen : ((L.drop f).take n).length ≤ L.length - f := by simp; omega
    have M := lmerge a ⟨0, 0, L.take k⟩ f 0 bo m d ((L.drop f).take n) w hm hL hT (fun ad ha hne => by obtain ⟨_, _, hB, _, _⟩ := hL; exact sl_ne hB hT hne ad ha) (Int.le_refl _) (by omega) (by omega) (by simp) (by omega) (Int.le_refl _)
    rw [hat, laid_pref L k f n (by omega) hk1] at M
    refine M.mono ?_
    rintro e w' ⟨ch, rfl, _, hL', hk⟩
    exact ⟨_, _, _, max k (f + ((L.drop f).take n).length), rfl, .inl ⟨rfl, by rw [hm]⟩, by omega, by omega, hL', hk⟩

def U16s (w : World) (la : Option Addr) (ll : Nat) (zs : Nat → Int) : Prop := ∀ i, i < ll → ∃ b off, la = some ⟨b, off, none⟩ ∧ w.cell? ⟨b, off + i, none⟩ = some (.int .u16 (zs i)) ∧ 0 ≤ zs i ∧ zs i < 65536
theorem U16s.keep {w w' : World} {la : Option Addr} {ll : Nat} {zs : Nat → Int} (h : U16s w la ll zs) (hk : Keeps [] w w') : U16s w' la ll zs := by
  intro i hi
  obtain ⟨b, off, e, hc, h0, h1⟩ := h i hi
  exact ⟨b, off, e, hk.cellSome hc (by simp), h0, h1⟩

set_option maxRecDepth 100000 in
set_option maxHeartbeats 16000000 in
theorem matches_any (la pa : Option Addr) (ll lc pl pc : Nat) (zs ps : Nat → Int) (w : World) (hg : (w).cell? ⟨0, 0, none⟩ = some (.iface 123 (.agg #[.pointer (some ⟨1, 35, none⟩)]))) (hll : ll ≤ 9223372036854775807) (hpl : pl ≤ 9223372036854775807) (hz : U8s w la ll zs) (hp : U16s w pa pl ps) :
    Calls Tryd.prog 3 #[.slice la ll lc, .slice pa pl pc] w fun e w' => e = .returned (.bool true) ∧ Keeps [] w w' := by
  have HZ := Lib.hid hz
  have HP := Lib.hid hp
  clear hz hp
  go_enter Tryd.func3, Tryd.ntmps3
  go_wp2_with fail
  refine (known_any w hg).mono ?_
  rintro e w1 ⟨rfl, hk1⟩
  by_cases h1 : 30 < ll
  · go_wp2_with fail
    go_ret
    exact ⟨rfl, hk1⟩
  by_cases h2 : 40 < pl
  · go_wp2_with fail
    go_ret
    exact ⟨rfl, hk1⟩
  have n4 : decide ((30 : Int) < (ll : Int)) = false := by simp; omega
  have n5 : decide ((40 : Int) < (pl : Int)) = false := by simp; omega
  go_wp2_with fail
  refine (lnew 0 0 none 0 0 [] w1 rfl (Sl.none _ _) (by simp)).mono ?_
  rintro e w2 ⟨b, rfl, hb, hL2, hk2⟩
  have hbw : w.heap.size ≤ b := by have := hk1.size; omega
  have hk02 := hk1.trans hk2
  clear hk1 hk2 hb
  go_wp2_with fail
  go_loopw [6, 7] (fun t i wr => ∃ (k : Nat) (es : List En) (tv : Int), k ≤ ll ∧ i = .int .i64 (k : Int) ∧ t = .int .u64 tv ∧ 1 ≤ tv ∧ tv ≤ 1 + k ∧ es.length = k ∧ LogAt wr b ⟨0, 0, es⟩ ∧ Keeps [] w wr) (fun _ i _ => ll - (intOf i).toNat)
  case atStart => exact ⟨0, [], 1, by omega, rfl, rfl, by omega, by omega, rfl, hL2, hk02⟩
  case round =>
    obtain ⟨k, es, tv, hk, rfl, rfl, ht0, ht1, hes, hLk, hkk⟩ := hrel
    clear hL2 hk02
    by_cases hlt : k < ll
    · obtain ⟨zb, zo, rfl, hcell, hz0, hz1⟩ := HZ.out k hlt
      have hcell' := hkk.cellSome hcell (by simp)
      clear hcell
      generalize zs k = z at *
      have hq0 : 0 ≤ z.tmod 3 := Int.tmod_nonneg _ hz0
      have hq1 : z.tmod 3 < 3 := Int.tmod_lt_of_pos _ (by omega)
      have hq2 : (z.tmod 3).tdiv 2 ≤ 1 := by
        rw [Int.tdiv_eq_ediv_of_nonneg hq0]; omega
      have hq3 : 0 ≤ (z.tmod 3).tdiv 2 := by
        rw [Int.tdiv_eq_ediv_of_nonneg hq0]; omega
      have q1 : IntKind.u8.wrap (z.tmod 3) = z.tmod 3 := IntWalk.u8_in _ (by omega)
      have q2 : IntKind.u8.wrap ((z.tmod 3).tdiv 2) = (z.tmod 3).tdiv 2 := IntWalk.u8_in _ (by omega)
      have q3 : IntKind.u64.wrap ((z.tmod 3).tdiv 2) = (z.tmod 3).tdiv 2 := IntWalk.u64_in _ (by omega)
      have q4 : IntKind.u64.wrap (tv + (z.tmod 3).tdiv 2) = tv + (z.tmod 3).tdiv 2 := IntWalk.u64_in _ (by omega)
      have q5 : IntKind.u64.wrap (k : Int) = (k : Int) := IntWalk.u64_in _ (by omega)
      have hkl : (k : Int) < (ll : Int) := by omega
      go_wp2_with fail
      have hlast : (⟨0, 0, es⟩ : Lg).last < 1000000 := by simp only [Lg.last]; omega
      have ht2 : 1 ≤ tv + z % 3 / 2 ∧ tv + z % 3 / 2 ≤ 1 + ((k : Int) + 1) := by omega
      refine (ladd b ⟨0, 0, es⟩ ⟨tv + z % 3 / 2, 1, 0, k, ⟨#[]⟩⟩ wr hLk (Int.le_refl _) hlast).mono ?_
      rintro e w3 ⟨rfl, hL3, hk3⟩
      have hk4 : Keeps [] w w3 := hkk.step hk3 (by intro x hx; simp at hx; omega)
      clear hk3 hLk hkk q1 q2 q3 q4 hq0 hq1 hq2 hq3
      generalize tv + z % 3 / 2 = t2 at *
      go_wp2_with fail
      go_roundw
      case rel => exact ⟨k + 1, _, t2, by omega, by go_num, rfl, ht2.1, by omega, by simp [hes], hL3, hk4⟩
      case measure => simp [intOf]; omega
    · have hkl : k = ll := by omega
      subst hkl
      clear hk hlt ht0 ht1
      have hS1 := Sl.of_blk (n := 1) (sz := 5) (Blk.fresh wr 30 (ens [⟨1, 1, 0, 77, ⟨#[]⟩⟩]).toArray) rfl (by decide) (ens_one _)
      have hLk1 := hLk.keep0 ((Keeps.refl [] wr).alloc (.cells (ens [⟨1, 1, 0, 77, ⟨#[]⟩⟩]).toArray 30))
      have hkk1 := hkk.alloc (.cells (ens [⟨1, 1, 0, 77, ⟨#[]⟩⟩]).toArray 30)
      clear hLk hkk
      go_wp2_with fail
      refine (lnew 0 0 _ 1 1 [⟨1, 1, 0, 77, ⟨#[]⟩⟩] _ rfl hS1 (by decide)).mono ?_
      rintro e w4 ⟨a0, rfl, _, _, hk4⟩
      have hL4 := hLk1.keep0 hk4
      have hk04 := hkk1.trans hk4
      clear hS1 hLk1 hkk1 hk4
      by_cases hk0 : k = 0
      · subst hk0
        by_cases hpl0 : pl = 0
        · subst hpl0
          go_wp2_with fail
          go_loopw [9] (fun i wr => i = .int .i64 0 ∧ Keeps [] w wr) (fun _ _ => 0)
          case atStart => exact ⟨rfl, hk04⟩
          case round =>
            obtain ⟨rfl, hkk⟩ := hrel
            go_wp2_with fail
            go_ret
            exact ⟨rfl, hkk⟩
        · have hpp : (0 : Int) < (pl : Int) := by omega
          go_wp2_with fail
          go_loopw [9] (fun i wr => i = .int .i64 0 ∧ Keeps [] w wr) (fun _ _ => 0)
          case atStart => exact ⟨rfl, hk04⟩
          case round =>
            obtain ⟨rfl, hkk⟩ := hrel
            go_wp2_with fail
            go_ret
            exact ⟨rfl, hkk⟩
      have hk0' : (0 : Int) < (k : Int) := by omega
      have hlE : (⟨0, 0, es⟩ : Lg).last = (k : Int) := by simp only [Lg.last]; omega
      go_wp2_with fail
      refine (lentries b ⟨0, 0, es⟩ 1 1 w4 hL4 (Int.le_refl _) (by omega) (by omega)).mono ?_
      rintro e w5 ⟨bo, d, rfl, hT, hk5⟩
      have hp1 : (⟨0, 0, es⟩ : Lg).part 1 1 = es.take 1 := by
        unfold Lg.part
        rfl
      have hp2 : (es.take 1).length = 1 := by simp; omega
      rw [hp1] at hT ⊢
      rw [hp2] at hT ⊢
      have hL5 := hL4.keep0 hk5
      have hk05 := hk04.trans hk5
      clear hL4 hk04 hk5
      go_wp2_with fail
      refine (lnew 0 0 bo 1 d (es.take 1) w5 hp2.symm hT (by omega)).mono ?_
      rintro e w6 ⟨a, rfl, ha, hA6, hk6⟩
      have hab : b ≠ a := by have := hL5.lt; omega
      have haw : w.heap.size ≤ a := by have := hk05.size; omega
      have hL6 := hL5.keep0 hk6
      have hk06 := hk05.trans hk6
      clear hL5 hk05 hk6 hT ha hp1 hp2
      go_wp2_with fail
      go_loopw [9] (fun i wr => ∃ j q : Nat, i = .int .i64 (j : Int) ∧ j ≤ pl ∧ q ≤ k ∧ LogAt wr b ⟨0, 0, es⟩ ∧ LogAt wr a ⟨0, 0, es.take q⟩ ∧ Keeps [] w wr) (fun i _ => pl - (intOf i).toNat)
      case atStart => exact ⟨0, 1, rfl, by omega, by omega, hL6, hA6, hk06⟩
      case round =>
        obtain ⟨j, q, rfl, hj, hq, hLr, hAr, hkr⟩ := hrel
        clear hL6 hA6 hk06
        by_cases hjl : j < pl
        · obtain ⟨zb, zo, rfl, hcell, hp0, hp1⟩ := HP.out j hjl
          have hcell' := hkr.cellSome hcell (by simp)
          clear hcell
          generalize ps j = z at *
          have hjl' : (j : Int) < (pl : Int) := by omega
          have hf0 : 0 ≤ z % (k : Int) := Int.emod_nonneg _ (by omega)
          have hf1 : z % (k : Int) < (k : Int) := Int.emod_lt_of_pos _ hk0'
          have hg0 : 0 ≤ z.tdiv 32 := by rw [Int.tdiv_eq_ediv_of_nonneg hp0]; omega
          have hg1 : z.tdiv 32 ≤ 65535 := by rw [Int.tdiv_eq_ediv_of_nonneg hp0]; omega
          obtain ⟨f, hf⟩ : ∃ f : Nat, z % (k : Int) = (f : Int) := ⟨(z % (k : Int)).toNat, by omega⟩
          have hm0 : 0 ≤ (z.tdiv 32).tmod 6 := Int.tmod_nonneg _ hg0
          have hm1 : (z.tdiv 32).tmod 6 < 6 := Int.tmod_lt_of_pos _ (by omega)
          obtain ⟨n, hn⟩ : ∃ n : Nat, (z.tdiv 32).tmod 6 = (n : Int) := ⟨((z.tdiv 32).tmod 6).toNat, by omega⟩
          have hfk : f < k := by omega
          have hn6 : n < 6 := by omega
          have r1 : IntKind.i64.wrap z = z := IntWalk.i64_in _ (by omega)
          have r5 : IntKind.u16.wrap (z.tdiv 32) = z.tdiv 32 := IntWalk.u16_in _ (by omega)
          have r6 : IntKind.i64.wrap (z.tdiv 32) = z.tdiv 32 := IntWalk.i64_in _ (by omega)
          have s1 : IntKind.u64.wrap (f : Int) = f := IntWalk.u64_in _ (by omega)
          have s2 : IntKind.u64.wrap ((f : Int) + 1) = f + 1 := IntWalk.u64_in _ (by omega)
          have s3 : IntKind.u64.wrap ((f : Int) + 1 - 1) = f := by rw [show (f : Int) + 1 - 1 = f by omega]; exact s1
          have s6 : IntKind.i64.wrap (n : Int) = n := IntWalk.i64_in _ (by omega)
          clear hf0 hf1 hg0 hg1 hm0 hm1
          have hkz : ¬ ((k : Int) = 0) := by omega
          go_wp2_with fail
          clear hf hn r1 r5 r6 hp0 hp1 hcell'
          refine (lterm_ok b ⟨0, 0, es⟩ f wr hLr (Int.le_refl _) (by omega) (by simp) (by omega)).mono ?_
          rintro e w7 ⟨rfl, hk7⟩
          have hL7 := hLr.keep0 hk7
          have hA7 := hAr.keep0 hk7
          have hk07 := hkr.trans hk7
          clear hLr hAr hkr hk7
          go_wp2_with fail
          refine (lentries b ⟨0, 0, es⟩ ((f : Int) + 1) n w7 hL7 (Int.le_refl _) (by omega) (by omega)).mono ?_
          rintro e w8 ⟨bo, d, rfl, hT, hk8⟩
          have hpart : (⟨0, 0, es⟩ : Lg).part ((f : Int) + 1) n = (es.drop f).take n := by
            unfold Lg.part
            have e1 : (max ((f : Int) + 1) ((⟨0, 0, es⟩ : Lg).base + 1) - (⟨0, 0, es⟩ : Lg).base - 1).toNat = f := by simp only []; omega
            rw [e1, Int.toNat_natCast]
          rw [hpart] at hT ⊢
          have hL8 := hL7.keep0 hk8
          have hA8 := hA7.keep0 hk8
          have hk08 := hk07.trans hk8
          clear hL7 hA7 hk07 hk8
          generalize hm : ((es.drop f).take n).length = m at hT ⊢
          have hml : m ≤ 30 := by rw [← hm]; simp; omega
          go_wp2_with fail
          refine (lmerge_pref a es q f n bo m d w8 hm.symm hA8 hT (by omega) (by omega) (by omega)).mono ?_
          rintro e w9 ⟨at_, ch, ev, q', rfl, hev, hq1, hq2, hA9, hk9⟩
          have hL9 := hL8.keepL hA8 hk9 hab
          have hk09 : Keeps [] w w9 := hk08.step hk9 (by intro x hx; simp at hx; omega)
          clear hL8 hA8 hk08 hk9 hT
          go_wp2_with fail
          have hlq : (⟨0, 0, es.take q'⟩ : Lg).last = (q' : Int) := by simp [Lg.last]; omega
          refine (llastt a ⟨0, 0, es.take q'⟩ w9 hA9 (Int.le_refl _) (by omega)).mono ?_
          rintro e wA ⟨rfl, hkA⟩
          rw [hlq]
          have hAA := hA9.keep0 hkA
          have hLA := hL9.keep0 hkA
          have hk0A := hk09.trans hkA
          clear hA9 hL9 hk09
          generalize (⟨0, 0, es.take q'⟩ : Lg).at ↑q' = aq
          go_upto_region 25 with (fail)
          go_cut [145] (fun v wx => v = .bool false ∧ LogAt wx b ⟨0, 0, es⟩ ∧ LogAt wx a ⟨0, 0, es.take q'⟩ ∧ Keeps [] w wx)
          case first =>
            have s4 : IntKind.u64.wrap (m : Int) = m := IntWalk.u64_in _ (by omega)
            have s5 : IntKind.u64.wrap ((f : Int) + (m : Int)) = f + m := IntWalk.u64_in _ (by omega)
            rcases hev with ⟨rfl, rfl⟩ | ⟨hE, hne, rfl⟩
            · go_wp2_with fail
              refine (lentries b ⟨0, 0, es⟩ ((f : Int) + 1) n wA hLA (Int.le_refl _) (by omega) (by omega)).mono ?_
              rintro e wB ⟨bo2, d2, rfl, _, hkB⟩
              rw [hpart, hm]
              go_wp2_with fail
              all_goals (go_meet; exact ⟨by simp, hLA.keep0 hkB, hAA.keep0 hkB, hk0A.trans hkB⟩)
            · have hEA := hE.keep hkA
              have hgA := hk0A.cellSome hg (by simp)
              rcases hEA with ⟨rfl, _⟩ | ⟨gg, pp, rfl, hbb⟩
              · exact absurd rfl hne
              · have CA := Lib.hid (class_any _ 52 wA hgA (.inr ⟨gg, pp, rfl, hbb⟩))
                clear hE hgA
                go_wp2_with fail
                refine CA.out.mono ?_
                rintro e wB ⟨rfl, hkB⟩
                go_wp2_with fail
                all_goals (go_meet; exact ⟨by simp, hLA.keep0 hkB, hAA.keep0 hkB, hk0A.trans hkB⟩)
          case rest =>
            obtain ⟨rfl, hLB, hAB, hk0B⟩ := hcut
            clear hLA hAA hk0A hkA hev hpart hm s1 s2 s3
            go_wp2_with fail
            refine (lentries a ⟨0, 0, es.take q'⟩ 1 100 wc hAB (Int.le_refl _) (by omega) (by omega)).mono ?_
            rintro e wD ⟨ax, dx, rfl, hTx, hkD⟩
            have hpx : (⟨0, 0, es.take q'⟩ : Lg).part 1 100 = es.take q' := by
              unfold Lg.part
              exact List.take_of_length_le (by simp; omega)
            have hlx : (es.take q').length = q' := by simp; omega
            rw [hpx] at hTx ⊢
            rw [hlx] at hTx ⊢
            have hLD := hLB.keep0 hkD
            have hAD := hAB.keep0 hkD
            have hk0D := hk0B.trans hkD
            clear hLB hAB hk0B hkD hpx
            go_wp2_with fail
            refine (lentries b ⟨0, 0, es⟩ 1 100 wD hLD (Int.le_refl _) (by omega) (by omega)).mono ?_
            rintro e wE ⟨ay, dy, rfl, hTy, hkE⟩
            have hpy : (⟨0, 0, es⟩ : Lg).part 1 100 = es := by
              unfold Lg.part
              exact List.take_of_length_le (by simp; omega)
            rw [hpy] at hTy ⊢
            rw [hes] at hTy ⊢
            have hTx' := hTx.keep0 hkE
            have hcy := hTy.cap
            have hTy' := hTy.take (k := q') (c' := dy) (by omega) (by omega) (Nat.le_refl _)
            rw [← ens_take] at hTy'
            have hLE := hLD.keep0 hkE
            have hAE := hAD.keep0 hkE
            have hk0E := hk0D.trans hkE
            have SE := Lib.hid (same_entries ax ay q' dx dy (es.take q') wE hlx.symm (by omega) hTx' hTy')
            have v1 : (q' : Int) ≤ (dy : Int) := by omega
            have v2 : ¬ ((k : Int) < (q' : Int)) := by omega
            clear hLD hAD hk0D hkE hTx hTy hTx' hTy' hpy hlx hcy
            go_wp2_with fail
            refine SE.out.mono ?_
            rintro e wF ⟨rfl, hkF⟩
            go_wp2_with fail
            go_roundw
            case rel => exact ⟨j + 1, q', by go_num, by omega, by omega, hLE.keep0 hkF, hAE.keep0 hkF, hk0E.trans hkF⟩
            case measure => simp [intOf]; omega
        · have hjl' : j = pl := by omega
          subst hjl'
          go_wp2_with fail
          go_ret
          exact ⟨rfl, hkr⟩
end Go.Proofs.YtahdclnflpkbcaaDoor
