/- WireNumbers: the walk. -/
import Derived.Test.YtcaahgjepkcenaaDoorWt
import Derived.Test.YtcaahgjepkcenaaDoorWin

namespace Go.Proofs.YtcaahgjepkcenaaDoor
open Go.RowKit Go.Lib

set_option maxRecDepth 100000 in
set_option maxHeartbeats 16000000 in
theorem numbers_any (n : Nat) (k : Int) (s : ByteArray) (mo : Option Addr) (mc : Nat) (lm : List UInt8) (w : World) (hg : (w).cell? ⟨0, 0, none⟩ = some (.iface 153 (.agg #[.pointer (some ⟨2, 27, none⟩)]))) (hn : n < 18446744073709551616) (hk : (Lit.int .i64 k).wf = true)
    (hm : ∀ w', Keeps [] w w' → Src Tryd.prog 1 24 (.slice mo lm.length mc) lm.length (bys lm) w') :
    Calls Tryd.prog 4 #[.int .u64 n, .int .i64 k, .string s, .slice mo lm.length mc] w fun e w' => e = .returned (.bool true) ∧ Keeps [] w w' := by
  obtain ⟨i, z, hi, hz, hsz, hby, hzc⟩ := infoB
  have HM := Lib.hid hm
  clear hm
  go_enter Tryd.func4, Tryd.ntmps4
  go_wp2_with fail
  refine (wknown w hg).mono ?_
  rintro e w1 ⟨rfl, hk1⟩
  by_cases h1 : 3000 < s.size
  · have n1 : (3000 : Int) < (s.size : Int) := by omega
    go_wp2_with fail
    go_ret
    exact ⟨rfl, hk1⟩
  have n1 : ¬ ((3000 : Int) < (s.size : Int)) := by omega
  by_cases h2 : 300 < lm.length
  · have n2 : (300 : Int) < (lm.length : Int) := by omega
    go_wp2_with fail
    go_ret
    exact ⟨rfl, hk1⟩
  have n2 : ¬ ((300 : Int) < (lm.length : Int)) := by omega
  have A1 := Lib.hid fun W => putUint n W hn
  have A2 := Lib.hid fun W => putInt k W hk
  have A3 := Lib.hid fun W => putText s W (by omega)
  have B1 := Lib.hid fun W => putUintR n W hn
  have B2 := Lib.hid fun W => putIntR k W hk
  have B3 := Lib.hid fun W => putTextR s W (by omega)
  have hl1 := uvarint_length64 hn
  have hl2 := uvarint_length64 (zigzag_lt' hk)
  have hl3 : (uvarint s.size ++ s.data.toList).length ≤ 3100 := by
    have := uvarint_length64 (x := s.size) (by omega)
    have hs : s.data.toList.length = s.size := by rw [Array.length_toList]; rfl
    rw [List.length_append]
    omega
  have r1 := rdU_put n lm hn
  have r2 := rdU_put (zigzag k) lm (zigzag_lt' hk)
  have r3 := rdT_put s lm (by omega)
  have huz := unzig_zigzag k
  have R1 := Lib.hid r1
  have R2 := Lib.hid r2
  have R3 := Lib.hid r3
  have HZ := Lib.hid huz
  clear r1 r2 r3 huz
  generalize uvarint n = la at *
  generalize uvarint (zigzag k) = lb at *
  generalize uvarint s.size ++ s.data.toList = lc at *
  go_wp2_with fail
  refine (A1.out _).mono ?_
  rintro e w2 ⟨ao, ac, rfl, hA, hk2⟩
  have ha := hA.rb
  clear hA A1
  go_wp2_with fail
  refine (A2.out _).mono ?_
  rintro e w3 ⟨bo, bc, rfl, hB, hk3⟩
  have hb := hB.rb
  have ha3 := ha.keep0 hk3
  clear hB A2 ha
  go_wp2_with fail
  refine (A3.out _).mono ?_
  rintro e w4 ⟨co, cc, rfl, hC, hk4⟩
  have hc := hC.rb
  have hb4 := hb.keep0 hk4
  have ha4 := ha3.keep0 hk4
  have hk04 := ((hk1.trans hk2).trans hk3).trans hk4
  clear hC A3 hb ha3 hk1 hk2 hk3 hk4
  go_wp2_with fail
  refine (B1.out _).mono ?_
  rintro e w5 ⟨do_, dc, rfl, hD, hk5⟩
  have ha5 := ha4.keep0 hk5
  have hb5 := hb4.keep0 hk5
  have hc5 := hc.keep0 hk5
  have hd := hD.rb
  go_wp2_with fail
  refine (bytes_any ao do_ ac dc la la w5 ha5 hd).mono ?_
  rintro e w' ⟨rfl, rfl⟩
  rw [beq_self_eq_true]
  have hk05 := hk04.trans hk5
  clear hD hd B1 ha4 hb4 hc hk5 hk04
  go_wp2_with fail
  refine (B2.out _).mono ?_
  rintro e w6 ⟨do_, dc, rfl, hD, hk6⟩
  have ha6 := ha5.keep0 hk6
  have hb6 := hb5.keep0 hk6
  have hc6 := hc5.keep0 hk6
  have hd := hD.rb
  go_wp2_with fail
  refine (bytes_any bo do_ bc dc lb lb w6 hb6 hd).mono ?_
  rintro e w' ⟨rfl, rfl⟩
  rw [beq_self_eq_true]
  have hk06 := hk05.trans hk6
  clear hD hd B2 ha5 hb5 hc5 hk6 hk05
  go_wp2_with fail
  refine (B3.out _).mono ?_
  rintro e w7 ⟨do_, dc, rfl, hD, hk7⟩
  have ha7 := ha6.keep0 hk7
  have hb7 := hb6.keep0 hk7
  have hc7 := hc6.keep0 hk7
  have hd := hD.rb
  go_wp2_with fail
  refine (bytes_any co do_ cc dc lc lc w7 hc7 hd).mono ?_
  rintro e w' ⟨rfl, hw⟩
  obtain rfl := hw.symm
  rw [beq_self_eq_true]
  have hk07 := hk06.trans hk7
  clear hD hd B3 ha6 hb6 hc6 hk7 hk06
  go_upto_region 8 with (fail)
  go_wp2_with (first
    | (at_builtin; refine wpList_append_by _ rfl _ _ 24 24 rfl w7.heap.size 5 i z 1 1 Tryd.underlying24 hi hz hsz hby hzc none _ 0 _ rfl (Own.nil _ _) _ rfl la.length _ (ha7.src Tryd.underlying24) (by unfold maxLen; omega) (by omega) (Nat.le_refl _) ?_; intro a1 c1 w8 hO1 hka hba; simp only [Nat.zero_add] at hO1 ⊢)
    | (at_builtin; refine wpList_append_by _ rfl _ _ 24 24 rfl w7.heap.size 5 i z 1 1 Tryd.underlying24 hi hz hsz hby hzc a1 _ c1 _ rfl hO1 _ rfl lm.length _ (HM.out w8 (hk07.trans hka)) (by unfold maxLen; omega) (by omega) hka.size ?_; intro a2 c2 w9 hO2 hkb hbb))
  have hR : Rb w9 a2 c2 (la ++ lm) := (Own.of hO2 (bys_append la lm).symm).rb
  have hlen : la.length + lm.length = (la ++ lm).length := by simp
  have hkn : Keeps [] w w9 := (hk07.trans hka).step hkb (fun x hx => .inr (Nat.le_trans hk07.size (ownsRow_lt hO1 x hx).1))
  have hb7n := (hb7.keep0 hka).keep hkb (fun ad e hne hx => by have h1 := hb7.lt e hne; have h2 := (ownsRow_lt hO1 _ hx).1; omega)
  have hc7n := (hc7.keep0 hka).keep hkb (fun ad e hne hx => by have h1 := hc7.lt e hne; have h2 := (ownsRow_lt hO1 _ hx).1; omega)
  rw [hlen]
  clear hO1 hO2 hka hkb hba hbb hlen hk07 ha7 hb7 hc7
  have U := uint_any a2 c2 (la ++ lm) w9 hR
  rw [R1.out] at U
  refine U.mono ?_
  rintro e w10 ⟨ev, rfl, _, hn1, hkx⟩
  obtain rfl := hn1.2 (by simp)
  have hb10 := hb7n.keep0 hkx
  have hc10 := hc7n.keep0 hkx
  have hk10 := hkn.trans hkx
  clear U hn1 hR hb7n hc7n hkn hkx
  go_upto_region 9 with (fail)
  go_wp2_with (first
    | (at_builtin; refine wpList_append_by _ rfl _ _ 24 24 rfl w10.heap.size 5 i z 1 1 Tryd.underlying24 hi hz hsz hby hzc none _ 0 _ rfl (Own.nil _ _) _ rfl lb.length _ (hb10.src Tryd.underlying24) (by unfold maxLen; omega) (by omega) (Nat.le_refl _) ?_; intro a1 c1 w11 hO1 hka hba; simp only [Nat.zero_add] at hO1 ⊢)
    | (at_builtin; refine wpList_append_by _ rfl _ _ 24 24 rfl w10.heap.size 5 i z 1 1 Tryd.underlying24 hi hz hsz hby hzc a1 _ c1 _ rfl hO1 _ rfl lm.length _ (HM.out w11 (hk10.trans hka)) (by unfold maxLen; omega) (by omega) hka.size ?_; intro a2 c2 w12 hO2 hkb hbb))
  have hR : Rb w12 a2 c2 (lb ++ lm) := (Own.of hO2 (bys_append lb lm).symm).rb
  have hlen : lb.length + lm.length = (lb ++ lm).length := by simp
  have hkn : Keeps [] w w12 := (hk10.trans hka).step hkb (fun x hx => .inr (Nat.le_trans hk10.size (ownsRow_lt hO1 x hx).1))
  have hc10n := (hc10.keep0 hka).keep hkb (fun ad e hne hx => by have h1 := hc10.lt e hne; have h2 := (ownsRow_lt hO1 _ hx).1; omega)
  rw [hlen]
  clear hO1 hO2 hka hkb hba hbb hlen hk10 hb10 hc10
  have U := int_any a2 c2 (lb ++ lm) w12 hR
  rw [R2.out] at U
  simp only [HZ.out] at U
  refine U.mono ?_
  rintro e w13 ⟨ev, rfl, _, hn1, hkx⟩
  obtain rfl := hn1.2 (by simp)
  have hc13 := hc10n.keep0 hkx
  have hk13 := hkn.trans hkx
  clear U hn1 hR hc10n hkn hkx
  go_upto_region 10 with (fail)
  go_wp2_with (first
    | (at_builtin; refine wpList_append_by _ rfl _ _ 24 24 rfl w13.heap.size 5 i z 1 1 Tryd.underlying24 hi hz hsz hby hzc none _ 0 _ rfl (Own.nil _ _) _ rfl lc.length _ (hc13.src Tryd.underlying24) (by unfold maxLen; omega) (by omega) (Nat.le_refl _) ?_; intro a1 c1 w14 hO1 hka hba; simp only [Nat.zero_add] at hO1 ⊢)
    | (at_builtin; refine wpList_append_by _ rfl _ _ 24 24 rfl w13.heap.size 5 i z 1 1 Tryd.underlying24 hi hz hsz hby hzc a1 _ c1 _ rfl hO1 _ rfl lm.length _ (HM.out w14 (hk13.trans hka)) (by unfold maxLen; omega) (by omega) hka.size ?_; intro a2 c2 w15 hO2 hkb hbb))
  have hR : Rb w15 a2 c2 (lc ++ lm) := (Own.of hO2 (bys_append lc lm).symm).rb
  have hlen : lc.length + lm.length = (lc ++ lm).length := by simp
  have hkn : Keeps [] w w15 := (hk13.trans hka).step hkb (fun x hx => .inr (Nat.le_trans hk13.size (ownsRow_lt hO1 x hx).1))
  rw [hlen]
  clear hO1 hO2 hka hkb hba hbb hlen hk13 hc13 
  have U := text_any a2 c2 (lc ++ lm) w15 hR
  rw [R3.out] at U
  refine U.mono ?_
  rintro e w16 ⟨ev, rfl, hE, hkx⟩
  have hk16 := hkn.trans hkx
  clear U hR hkn hkx
  have hg16 : (w16).cell? ⟨0, 0, none⟩ = some (.iface 153 (.agg #[.pointer (some ⟨2, 27, none⟩)])) := hk16.cellSome hg (by simp)
  by_cases h20 : 2000 < s.size
  · rw [if_pos h20] at hE ⊢
    have n3 : (2000 : Int) < (s.size : Int) := by omega
    go_wp2_with fail
    refine (class_any ev 20 w16 hg16 hE.is).mono ?_
    rintro e w17 ⟨rfl, hk17⟩
    go_wp2_with fail
    go_ret
    exact ⟨rfl, hk16.trans hk17⟩
  · rw [if_neg h20] at hE ⊢
    obtain rfl := hE.zero.2 rfl
    have n3 : ¬ ((2000 : Int) < (s.size : Int)) := by omega
    clear hE
    go_wp2_with fail
    go_ret
    exact ⟨rfl, hk16⟩
end Go.Proofs.YtcaahgjepkcenaaDoor
