/- WireFrames: the walk. -/
import Derived.Test.YtcaahgjepkcenaaDoorWfl
import Derived.Laws.ShiftsVarLaws

namespace Go.Proofs.YtcaahgjepkcenaaDoor
open Go.RowKit Go.Lib

theorem Turned.turn' {b g : List UInt8} {pl k W j : Nat} (h : Turned b pl k g W) (hj : j = 32 + pl + k) (hp : pl + k < 8 * (b.length + 4)) (x : UInt8) (hq : j / 8 < g.length) (hx : x.toNat = g[j / 8].toNat ^^^ 2 ^ (j % 8)) :
    Turned b pl (k + 1) (g.set (j / 8) x) (W ^^^ 2 ^ k) ∧ W ^^^ 2 ^ k ≠ 0 := by
  subst hj
  exact h.turn hp x hq hx

set_option maxRecDepth 100000 in
set_option maxHeartbeats 16000000 in
theorem frames_any (bo mo : Option Addr) (bc mc : Nat) (b lm : List UInt8) (pl : Int) (turn : Nat) (w : World) (hg : (w).cell? ⟨0, 0, none⟩ = some (.iface 153 (.agg #[.pointer (some ⟨2, 27, none⟩)]))) (hb : Rb w bo bc b) (hm : Rb w mo mc lm) (hp : (Lit.int .i64 pl).wf = true) :
    Calls Tryd.prog 6 #[.slice bo b.length bc, .slice mo lm.length mc, .int .i64 pl, .int .u32 turn] w fun e w' => e = .returned (.bool true) ∧ Keeps [] w w' := by
  obtain ⟨i, z, hi, hz, hsz, hby, hzc⟩ := infoB
  have hpb := bounds_i64 hp
  go_enter Tryd.func6, Tryd.ntmps6
  go_wp2_with fail
  refine (wknown w hg).mono ?_
  rintro e w1 ⟨rfl, hk1⟩
  by_cases h1 : 1000 < b.length
  · have n1 : (1000 : Int) < (b.length : Int) := by omega
    go_wp2_with fail
    go_ret
    exact ⟨rfl, hk1⟩
  have n1 : ¬ ((1000 : Int) < (b.length : Int)) := by omega
  by_cases h2 : 100 < lm.length
  · have n2 : (100 : Int) < (lm.length : Int) := by omega
    go_wp2_with fail
    go_ret
    exact ⟨rfl, hk1⟩
  have n2 : ¬ ((100 : Int) < (lm.length : Int)) := by omega
  by_cases h3 : pl < 0
  · go_wp2_with fail
    go_ret
    exact ⟨rfl, hk1⟩
  obtain ⟨p, rfl⟩ := Int.eq_ofNat_of_zero_le (show 0 ≤ pl by omega)
  have n3 : ¬ ((p : Int) < 0) := by omega
  have hb1 := hb.keep0 hk1
  have hm1 := hm.keep0 hk1
  go_wp2_with (at_builtin; refine wpList_append_by _ rfl _ _ 24 24 rfl (w1).heap.size 5 i z 1 1 Tryd.underlying24 hi hz hsz hby hzc none _ 0 _ rfl (Own.nil _ _) _ rfl b.length _ (hb1.src Tryd.underlying24) (by unfold maxLen; omega) (by omega) (Nat.le_refl _) ?_; intro a1 c1 w2 hO1 hka hba; simp only [Nat.zero_add] at hO1 ⊢)
  have hB : Rb w2 a1 c1 b := (Own.of hO1 rfl).rb
  have hk2 : Keeps [] w w2 := hk1.trans hka
  clear hO1 hba
  have F := frame_any a1 c1 b w2 hB
  rw [if_pos (by omega), if_pos (by omega)] at F
  have hfl := frame_length b
  have HB := Lib.hid (frame_back b lm (by omega))
  have HS := Lib.hid (Turned.start b p)
  have HFL := Lib.hid hfl
  clear hfl
  refine F.mono ?_
  rintro e w3 ⟨fo, fc, ev, rfl, hF, hE, hk3⟩
  obtain rfl := hE.zero.2 rfl
  have hF3 := hF.rb
  have hk03 := hk2.trans hk3
  have hb3 := hb1.keep0 (hka.trans hk3)
  have hm3 := hm1.keep0 (hka.trans hk3)
  have HFR := Lib.hid (rfl : frame b = frame b)
  have hfl : (frame b).length ≤ 1008 := by have := HFL.out; omega
  generalize hfr : frame b = f at *
  have HFR2 := Lib.hid hfr
  clear hfr HFR F hE hF hk2 hb1 hm1 hka hB
  go_upto_region 9 with (first
    | (at_builtin; refine wpList_append_by _ rfl _ _ 24 24 rfl w3.heap.size 5 i z 1 1 Tryd.underlying24 hi hz hsz hby hzc none _ 0 _ rfl (Own.nil _ _) _ rfl f.length _ (hF3.src Tryd.underlying24) (by unfold maxLen; omega) (by omega) (Nat.le_refl _) ?_; intro a4 c4 w4 hO4 hka hba; simp only [Nat.zero_add] at hO4 ⊢)
    | (at_builtin; refine wpList_append_by _ rfl _ _ 24 24 rfl w3.heap.size 5 i z 1 1 Tryd.underlying24 hi hz hsz hby hzc a4 _ c4 _ rfl hO4 _ rfl lm.length _ ((hm3.keep0 hka).src Tryd.underlying24) (by unfold maxLen; omega) (by omega) hka.size ?_; intro a5 c5 w5 hO5 hkb hbb)
    | (go_at_call 31; fail))
  have hR : Rb w5 a5 c5 (f ++ lm) := (Own.of hO5 (bys_append f lm).symm).rb
  have hk35 : Keeps [] w3 w5 := ((Keeps.refl [] w3).trans hka).step hkb (fun x hx => .inr (ownsRow_lt hO4 x hx).1)
  have U := unframe_any a5 c5 (f ++ lm) w5 hR
  rw [HB.out] at U
  have hlen : (f ++ lm).length = f.length + lm.length := by simp
  rw [hlen] at U
  clear hlen hO4 hO5 hka hkb hba hbb hR
  refine U.mono ?_
  rintro e w6 ⟨xo, xc, ev, rfl, hX, hE, hk6⟩
  obtain rfl := hE.zero.2 rfl
  have hb6 := hb3.keep0 (hk35.trans hk6)
  have hF6 := hF3.keep0 (hk35.trans hk6)
  have hk06 := hk03.trans (hk35.trans hk6)
  clear U hE hk35 hk6 hb3 hm3 hF3 hk03
  go_upto_region 9 with (fail)
  go_wp2_with fail
  refine (bytes_any xo bo xc bc b b w6 hX hb6).mono ?_
  rintro e w' ⟨rfl, hw⟩
  obtain rfl := hw.symm
  rw [beq_self_eq_true]
  clear hX hw
  have q1 : IntKind.i64.wrap ((b.length : Int) + 4) = b.length + 4 := IntWalk.i64_in _ (by omega)
  obtain ⟨bits, hbits⟩ : ∃ bits : Nat, bits = 8 * (b.length + 4) := ⟨_, rfl⟩
  have q2 : IntKind.i64.wrap (8 * ((b.length : Int) + 4)) = (bits : Int) := by rw [IntWalk.i64_in _ (by omega), hbits]; omega
  have HBT := Lib.hid hbits
  have hbm : bits ≤ 8032 := by omega
  clear hbits
  go_upto_region 13 with (at_builtin; refine wpList_append_by _ rfl _ _ 24 24 rfl w6.heap.size 5 i z 1 1 Tryd.underlying24 hi hz hsz hby hzc none _ 0 _ rfl (Own.nil _ _) _ rfl f.length _ (hF6.src Tryd.underlying24) (by unfold maxLen; omega) (by omega) (Nat.le_refl _) ?_; intro g0 gc w7 hO7 hka hba; simp only [Nat.zero_add] at hO7 ⊢)
  have hG : Own w7 w6.heap.size g0 gc f := Own.of hO7 rfl
  have hb7 := hb6.keep0 hka
  have hk07 := hk06.trans hka
  have hN : w.heap.size ≤ w6.heap.size := hk06.size
  have hbN : ∀ ad, bo = some ad → bys b ≠ [] → ad.block < w6.heap.size := fun ad e hne => hb6.lt e hne
  have HBN := Lib.hid hbN
  clear hO7 hka hba hF6 hb6 hk06 q1 q2 hbN
  obtain ⟨gb, go', hg0⟩ := hG.rb.at (by have := hG.rb.cap; have := HFL.out; omega)
  have hgo : go' = 0 := by
    subst hg0
    rcases hG.2 with ⟨h0, _⟩ | ⟨g', cap, cur, he, _⟩
    · cases h0
    · cases he; rfl
  subst hgo
  subst hg0
  generalize w6.heap.size = N at *
  go_wp2_with fail
  go_loopw [15, 16] (fun t v wr => ∃ (k W : Nat) (g : List UInt8), t = .bool (decide (W ≠ 0)) ∧ v = .int .i64 (k : Int) ∧ k ≤ 32 ∧ Turned b p k g W ∧ g.length = f.length ∧ Own wr N (some ⟨gb, 0, none⟩) gc g ∧ Rb wr bo bc b ∧ Keeps [] w wr) (fun _ v _ => 32 - (intOf v).toNat)
  case atStart => exact ⟨0, 0, f, rfl, rfl, by omega, HS.out, rfl, hG, hb7, hk07⟩
  case round =>
    obtain ⟨k, W, g, rfl, rfl, hk, hT, hgl, hGr, hbr, hkr⟩ := hrel
    clear hG hb7 hk07
    by_cases hk32 : k < 32
    rotate_left
    · have ek : k = 32 := by omega
      subst ek
      have U := unframe_any (some ⟨gb, 0, none⟩) gc g wr hGr.rb
      have hgr := hkr.cellSome hg (by simp)
      rw [hgl] at U
      by_cases hW : W = 0
      · subst hW
        have hgf : g = f := (hT.same rfl).trans HFR2.out
        have hu := frame_back b [] (by omega)
        rw [List.append_nil, HFR2.out] at hu
        rw [hgf, hu] at U
        clear hT hgl hgf hu hGr hk32 hk
        go_upto_region 22 with (go_at_call 31; refine U.mono ?_; rintro e wA ⟨yo, yc, ev, rfl, hY, hE, hkA⟩; obtain rfl := hE.zero.2 rfl; dsimp only [] at hY ⊢)
        have hbA := hbr.keep0 hkA
        have hkk := hkr.trans hkA
        clear U hE hkA hbr hkr hgr
        go_wp2_with (go_at_call 15; refine (bytes_any yo bo yc bc b b wA hY hbA).mono ?_; rintro e wB ⟨rfl, hwB⟩; obtain rfl := hwB.symm; rw [beq_self_eq_true])
        go_ret
        exact ⟨rfl, hkk⟩
      · have hu := hT.told (by omega) hW
        rw [hu] at U
        clear hT hgl hu hGr hk32 hk
        go_upto_region 22 with (go_at_call 31; refine U.mono ?_; rintro e wA ⟨yo, yc, ev, rfl, hY, hE, hkA⟩; dsimp only [List.length_nil] at hY ⊢)
        have hgA := hkA.cellSome hgr (by simp)
        have hkk := hkr.trans hkA
        have hE2 := hE.is
        clear U hE hkA hbr hkr hgr
        go_wp2_with (go_at_call 21; refine (class_any ev 21 wA hgA hE2).mono ?_; rintro e wB ⟨rfl, hkB⟩)
        go_ret
        exact ⟨rfl, hkk.trans hkB⟩
    have hki : (k : Int) < 32 := by omega
    have s1 : IntKind.i64.wrap ((k : Int) + 1) = k + 1 := IntWalk.i64_in _ (by omega)
    have s2 : IntKind.i64.wrap ((bits : Int) - (k : Int)) = (bits : Int) - k := IntWalk.i64_in _ (by omega)
    obtain ⟨y, hy⟩ : ∃ y : Nat, y = turn / 2 ^ k := ⟨_, rfl⟩
    have e1 : (turn : Int) / 2 ^ k = (y : Int) := by rw [hy]; simp
    clear hy
    have hsk := Lib.hid hT.skip
    by_cases hA : y % 2 = 1
    rotate_left
    · have n4 : (((y : Int) % 2) == 1) = false := by simp; omega
      have HG := Lib.hid hgl
      clear hA hgl hT
      go_wp2_with fail
      go_roundw
      case rel => exact ⟨k + 1, W, g, by simp, by simp, by omega, hsk.out, HG.out, hGr, hbr, hkr⟩
      case measure => simp [intOf]; omega
    have n4 : ((y : Int) % 2) = 1 := by omega
    by_cases hP : p + k < bits
    rotate_left
    · have n5 : ¬ ((p : Int) < (bits : Int) - (k : Int)) := by omega
      have HG := Lib.hid hgl
      clear hA hgl hT hP
      go_wp2_with fail
      go_roundw
      case rel => exact ⟨k + 1, W, g, by simp, by simp, by omega, hsk.out, HG.out, hGr, hbr, hkr⟩
      case measure => simp [intOf]; omega
    have n5 : (p : Int) < (bits : Int) - (k : Int) := by omega
    obtain ⟨j, hj⟩ : ∃ j : Nat, j = 32 + p + k := ⟨_, rfl⟩
    have s3 : IntKind.i64.wrap (32 + (p : Int)) = 32 + p := IntWalk.i64_in _ (by omega)
    have s4 : IntKind.i64.wrap (32 + (p : Int) + (k : Int)) = (j : Int) := by rw [IntWalk.i64_in _ (by omega), hj]; omega
    have hbl := HBT.out
    have hfl2 := HFL.out
    have hq : j / 8 < g.length := by omega
    have hcell := World.ownsRow.cellAt hGr (j / 8) (by omega)
    rw [bys_at hq] at hcell
    have hfrz := World.ownsRow.frozenAt hGr (j / 8)
    have hst := fun u => World.ownsRow.stored hGr (j / 8) u
    have hTt := fun (x : UInt8) (hx : x.toNat = g[j / 8].toNat ^^^ 2 ^ (j % 8)) => hT.turn' hj (by omega) x hq hx
    have hxb := g[j / 8].toNat_lt
    generalize hx0 : g[j / 8].toNat = x at *
    have HX := Lib.hid hj
    have HST := Lib.hid hst
    have HTT := Lib.hid hTt
    have HG := Lib.hid hgl
    have hjl : j / 8 < f.length := by omega
    have d1 : IntKind.i64.wrap ((j : Int) / 8) = ((j / 8 : Nat) : Int) := by rw [IntWalk.i64_in _ (by omega)]; omega
    have d2 : IntKind.i64.wrap ((j : Int) % 8) = ((j % 8 : Nat) : Int) := by rw [IntWalk.i64_in _ (by omega)]; omega
    have d3 : (j : Int).tmod 8 = ((j % 8 : Nat) : Int) := by rw [Int.tmod_eq_emod_of_nonneg (by omega)]; omega
    have d4 : IntKind.i64.wrap ((j % 8 : Nat) : Int) = ((j % 8 : Nat) : Int) := IntWalk.i64_in _ (by omega)
    have hr8 : j % 8 < 8 := by omega
    generalize j / 8 = q at *
    generalize j % 8 = r at *
    clear hst hTt hj hA hP hT hgl hx0 hbl hfl2 hq
    go_upto_region 19 with (fail)
    have hgf : 0 < w.heap.size := block_lt_of_cell hg
    have hgl2 := (hGr.lt gb (by simp)).2
    refine wp_region_still_tail 13 (by kernel_rfl) (by kernel_rfl) ?_
    change wpStill _ _ (World.drew _) _ _ _
    simp only [List.take_succ_cons, List.take_zero, List.drop_succ_cons, List.drop_zero]
    repeat still_step
    refine wpStill_nil ?_
    change wpList _ _ _ _ _ (World.drew _)
    have y1 : IntKind.u8.wrap (2 ^ r) = ((2 ^ r : Nat) : Int) := by
      have : r = 0 ∨ r = 1 ∨ r = 2 ∨ r = 3 ∨ r = 4 ∨ r = 5 ∨ r = 6 ∨ r = 7 := by omega
      rcases this with rfl | rfl | rfl | rfl | rfl | rfl | rfl | rfl <;> rfl
    have y2 : 2 ^ r < 256 := by
      have : r = 0 ∨ r = 1 ∨ r = 2 ∨ r = 3 ∨ r = 4 ∨ r = 5 ∨ r = 6 ∨ r = 7 := by omega
      rcases this with rfl | rfl | rfl | rfl | rfl | rfl | rfl | rfl <;> decide
    have y3 : Go.bits .xor .u8 (x : Int) (2 ^ r) = ((x ^^^ 2 ^ r : Nat) : Int) := by
      have := u8_xor_nat x (2 ^ r) hxb y2
      simpa using this
    have hxr : x ^^^ 2 ^ r < 256 := Nat.xor_lt_two_pow (n := 8) hxb y2
    obtain ⟨X, hX⟩ : ∃ X : UInt8, X.toNat = x ^^^ 2 ^ r := ⟨UInt8.ofNat (x ^^^ 2 ^ r), by rw [UInt8.toNat_ofNat']; exact Nat.mod_eq_of_lt hxr⟩
    obtain ⟨hT2, hW2⟩ := HTT.out X hX
    have hS := (HST.out (.int .u8 (X.toNat : Nat))).1
    have hks : Keeps [gb] wr (wr.setCell ⟨gb, q, none⟩ (.int .u8 (X.toNat : Nat))) := (Keeps.refl [gb] wr).set (by simp) _
    rw [hX] at hS hks
    have hgN : N ≤ gb := (hGr.lt gb (by simp)).1
    have hbs : bys (g.set q X) = (bys g).set q (.int .u8 ((x ^^^ 2 ^ r : Nat) : Int)) := by
      rw [← hX]; unfold bys; rw [List.map_set]
    rw [← hbs] at hS
    have HS2 := Lib.hid hS
    have HT2 := Lib.hid hT2
    have HW2 := Lib.hid hW2
    have HKS := Lib.hid hks
    clear hS hT2 hW2 hks hX hbs hxr
    go_upto_region 20 with (fail)
    generalize hw1 : World.setCell wr _ _ = w1
    have hks := HKS.out
    have hS := HS2.out
    rw [hw1] at hks hS
    have hO1 : Own w1 N (some ⟨gb, 0, none⟩) gc (g.set q X) := by
      unfold Own
      rw [List.length_set]
      exact hS
    have hO2 := hO1.keep0 (Keeps.refl [] w1).drew
    have hb2 := (hbr.keep hks (fun ad e hne hm => by
      simp at hm
      have := HBN.out ad e hne
      omega)).keep0 (Keeps.refl [] w1).drew
    have hk2 := (hkr.step hks (fun y hy => by simp at hy; subst hy; right; omega)).drew
    have HGL := Lib.hid (show (g.set q X).length = f.length by rw [List.length_set]; exact HG.out)
    clear hks hS hO1 HS2 HKS HST HTT hGr hbr hkr hw1 hcell hfrz
    go_wp2_with fail
    go_roundw
    case rel => exact ⟨k + 1, W ^^^ 2 ^ k, g.set q X, congrArg Value.bool (decide_eq_true HW2.out).symm, by simp, by omega, HT2.out, HGL.out, hO2, hb2, hk2⟩
    case measure => simp [intOf]; omega
end Go.Proofs.YtcaahgjepkcenaaDoor
