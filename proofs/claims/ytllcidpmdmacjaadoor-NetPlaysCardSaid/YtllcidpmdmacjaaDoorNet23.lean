/- NetPlays: the walk. -/
import Derived.Test.YtllcidpmdmacjaaDoorNet19
import Derived.Test.YtllcidpmdmacjaaDoorNet20
import Derived.Test.YtllcidpmdmacjaaDoorNet21
import Derived.Test.YtllcidpmdmacjaaDoorNet22
import Derived.Deep.DeepCutAuto
import Derived.Deep.CutBlock
import Derived.Deep.CutRange

namespace Go.Proofs.YtllcidpmdmacjaaDoor
open Go.RowKit Go.Lib
set_option maxRecDepth 100000 in
set_option maxHeartbeats 40000000 in
theorem plays_any (za : Option Addr) (zc : Nat) (zl : List Sp) (w : World) (hg : (w).cell? ⟨0, 0, none⟩ = some (.iface 120 (.agg #[.pointer (some ⟨2, 31, none⟩)]))) (hq : ∀ s ∈ zl, s.seq < 18446744073709551616) (hz : StepsIn w za zl) :
    Calls Tryd.prog 3 #[.slice za zl.length zc] w fun e w' => e = .returned (.bool true) ∧ Keeps [] w w' := by
  obtain ⟨im, zm, him, hzm, hsm, -, hzc⟩ := infoM0
  obtain ⟨C, hC⟩ := lc_any
  have HZ := Lib.hid hz
  have HQ := Lib.hid hq
  have HGW := Lib.hid hg
  have HSM := Lib.hid hsm
  have HIM := Lib.hid him
  have HZM := Lib.hid hzm
  clear hz hq hg hsm him hzm hzc
  go_enter Tryd.func3, Tryd.ntmps3
  go_wp2_with fail
  refine (known_any w).mono ?_
  rintro e w0 ⟨rfl, hk0⟩
  by_cases hlong : 100 < zl.length
  · have n0 : (100 : Int) < (zl.length : Int) := by omega
    go_wp2_with fail
    go_ret
    exact ⟨rfl, hk0⟩
  have n0 : ¬ ((100 : Int) < (zl.length : Int)) := by omega
  go_wp2_with fail
  refine (gnew w0).mono ?_
  rintro e w1 ⟨nb, rfl, hN1, hk1⟩
  have hk01 := hk0.trans hk1
  have hNw : w.heap.size ≤ w0.heap.size := hk0.size
  have hM1 : MM w1 w0.heap.size none 0 [] := MM.none _ _
  clear hk0 hk1 n0
  generalize w0.heap.size = N at *
  go_wp2_with fail
  go_loopw [4, 5] (fun v4 v5 wr => ∃ (k c : Nat) (ao : Option Addr) (l : List (Int × Nat)), v4 = .slice ao l.length c ∧ v5 = .int .i64 (k : Int) ∧ k ≤ zl.length ∧ l.length ≤ k ∧ MM wr N ao c l ∧ NetG wr N nb l ∧ Keeps [] w wr) (fun _ v _ => 200 - (intOf v).toNat)
  case atStart => exact ⟨0, 0, none, [], rfl, rfl, by omega, by simp, hM1, hN1, hk01⟩
  case round =>
    obtain ⟨k, c, ao, l, rfl, rfl, hk, hlk, hMk, hNk, hkk⟩ := hrel
    clear hM1 hN1 hk01
    by_cases hlt : k < zl.length
    rotate_left
    · have n1 : ¬ ((k : Int) < (zl.length : Int)) := by omega
      go_wp2_with fail
      go_ret
      exact ⟨rfl, hkk⟩
    have n1 : (k : Int) < (zl.length : Int) := by omega
    have qk : IntKind.i64.wrap ((k : Int) + 1) = k + 1 := IntWalk.i64_in _ (by omega)
    obtain ⟨s, hs⟩ : ∃ s, zl[k]? = some s := ⟨_, List.getElem?_eq_getElem hlt⟩
    have hsq := HQ.out s (List.mem_of_getElem? hs)
    obtain ⟨zb, zo, rfl, hz⟩ := HZ.out k s hs
    obtain ⟨wh, ix, tn, sq, bad⟩ := s
    have HL := Lib.hid (fun j v hv => hkk.cellSome (hz j v hv) (by simp) : ∀ j v, ([.int .i64 wh, .int .i64 ix, .int .i64 tn, .int .u64 (sq : Nat), .bool bad] : List Value)[j]? = some v → wr.cell? ⟨zb, zo + k * 5 + j, none⟩ = some v)
    clear hz hs
    have hS := Blk.fresh wr 29 ([.int .i64 wh, .int .i64 ix, .int .i64 tn, .int .u64 (sq : Nat), .bool bad] : List Value).toArray
    have hkS := (Keeps.refl [] wr).alloc (.cells ([.int .i64 wh, .int .i64 ix, .int .i64 tn, .int .u64 (sq : Nat), .bool bad] : List Value).toArray 29)
    have hM := hMk.keep0 hkS
    have hN := hNk.keep0 hkS
    have hk0 := hkk.trans hkS
    have hNs : N ≤ wr.heap.size := hNk.nw
    simp only [] at hsq
    go_upto_region 11 with (first
      | (refine wpList_load_run rfl _ _ rfl zb (zo + k * 5) rfl ([.int .i64 wh, .int .i64 ix, .int .i64 tn, .int .u64 (sq : Nat), .bool bad]) HL.out _ Tryd.underlying29 rfl sizeSp ?_)
      | (refine wpList_store_fresh rfl rfl _ _ _ rfl _ rfl rfl _ rfl _ _ sizeSp (by simp) rfl ?_))
    change Code.wp _ _ _ _ (World.alloc wr (.cells ([.int .i64 wh, .int .i64 ix, .int .i64 tn, .int .u64 (sq : Nat), .bool bad] : List Value).toArray 29))
    clear hMk hNk hkk hkS HL
    generalize World.alloc wr _ = wS at *
    generalize wr.heap.size = sb at *
    replace hS := hS.eq (cs' := #[.int .i64 wh, .int .i64 ix, .int .i64 tn, .int .u64 (sq : Nat), .bool bad]) rfl
    obtain ⟨d, hd⟩ : ∃ d : Bool, d = decide (0 ≤ ix ∧ ix < (l.length : Int)) := ⟨_, rfl⟩
    have HD := Lib.hid hd
    have hcS := hS.cell
    have hlS := hS.lt
    go_cut [7] (fun v wx => v = .bool d ∧ wx = wS)
    case first =>
      by_cases h0 : 0 ≤ ix
      · by_cases h1 : ix < (l.length : Int)
        · obtain rfl : d = true := by rw [hd]; simp [h0, h1]
          clear hd
          go_wp2_with fail
          go_meet
          exact ⟨rfl, rfl⟩
        · obtain rfl : d = false := by rw [hd]; simp [h0, h1]
          clear hd
          go_wp2_with fail
          go_meet
          exact ⟨rfl, rfl⟩
      · obtain rfl : d = false := by rw [hd]; simp [h0]
        clear hd
        go_wp2_with fail
        go_meet
        exact ⟨rfl, rfl⟩
    case rest =>
    obtain ⟨rfl, hw⟩ := hcut
    obtain rfl := hw.symm
    clear hd
    obtain ⟨z, hzd⟩ : ∃ z : Int, z = if d then 0 else 40 := ⟨_, rfl⟩
    have HZD := Lib.hid hzd
    clear hzd
    go_upto_if 44 with (fail)
    go_cut [8] (fun v wx => v = .int .i64 z ∧ wx = wS)
    case first =>
      cases d
      · obtain rfl : z = 40 := HZD.out
        go_wp2_with fail
        go_meet
        exact ⟨rfl, rfl⟩
      · obtain rfl : z = 0 := HZD.out
        go_wp2_with fail
        go_meet
        exact ⟨rfl, rfl⟩
    case rest =>
    obtain ⟨rfl, hw⟩ := hcut
    obtain rfl := hw.symm
    go_upto_block 2 with (fail)
    go_cut [4, 9, 10, 11, 12] (fun v4 _ _ _ _ wx => ∃ (l' : List (Int × Nat)) (ao' : Option Addr) (c' : Nat), v4 = .slice ao' l'.length c' ∧ l'.length ≤ k + 1 ∧ MM wx N ao' c' l' ∧ NetG wx N nb l' ∧ Blk wx sb 29 #[.int .i64 wh, .int .i64 ix, .int .i64 tn, .int .u64 (sq : Nat), .bool bad] ∧ Keeps [] w wx)
    case first =>
      rename_i J K hJ hK
      clear hcS hlS
      by_cases hA : wh = 0 ∨ wh = 1 ∨ wh = 2
      · by_cases hok : bad = false ∧ -1 ≤ tn ∧ tn ≤ 1000
        · exact sw_A w wS N nb sb k c ao l wh ix tn z sq bad d C hC HGW.out hNw (by omega) hlk hsq hM hN hS hk0 hNs HD.out HZD.out hA hok _ _ _ _ _ _ _ _ _ _ _ _ _ _ _ _ _ _ _ _ _ _ _ _ _ _ _ _ _ _ _ _ _ _ _ _ _ _ _ _ _ _ _ _ _ _ _ _ _ _ _ _ _ _ _ _ _ _ _ _ _ _ _ _ _ _ _ _ _ _ _ _ _ _ _ _ _ _ _ _ _ _ _ _ _ _ _ _ _ _ _ _ _ _ _ _ _ _ _ _ _ _ _ _ _ _ _ _ _ _ _ _ _ _ _ _ _ _ _ _ _ _ _ _ _ _ _ _ _ _ _ _ _ _ _ _ _ _ _ _ _ _ _ _ _ _ _ _ _ _ _ _ _ _ _ _ _ _ _ _ _ _ _ _ _ _ _ _ _ _ _ _ _ _ _ _ _ _ _ _ _ _ _ _ _ _ _ _ _ _ _ _ _ _ _ _ _ _ _ _ _ _ _ _ _ _ _ _ _ _ _ _ _ _ _ _ _ _ _ _ _ _ _ _ _ _ _ _ _ _ _ _ _ hJ hK (fun _ _ d _ _ h => by cases d <;> exact h)
        · exact sw_B w wS N nb sb k c ao l wh ix tn z sq bad d C hC HGW.out hNw (by omega) hlk hsq hM hN hS hk0 hNs HD.out HZD.out hA hok _ _ _ _ _ _ _ _ _ _ _ _ _ _ _ _ _ _ _ _ _ _ _ _ _ _ _ _ _ _ _ _ _ _ _ _ _ _ _ _ _ _ _ _ _ _ _ _ _ _ _ _ _ _ _ _ _ _ _ _ _ _ _ _ _ _ _ _ _ _ _ _ _ _ _ _ _ _ _ _ _ _ _ _ _ _ _ _ _ _ _ _ _ _ _ _ _ _ _ _ _ _ _ _ _ _ _ _ _ _ _ _ _ _ _ _ _ _ _ _ _ _ _ _ _ _ _ _ _ _ _ _ _ _ _ _ _ _ _ _ _ _ _ _ _ _ _ _ _ _ _ _ _ _ _ _ _ _ _ _ _ _ _ _ _ _ _ _ _ _ _ _ _ _ _ _ _ _ _ _ _ _ _ _ _ _ _ _ _ _ _ _ _ _ _ _ _ _ _ _ _ _ _ _ _ _ _ _ _ _ _ _ _ _ _ _ _ _ _ _ _ _ _ _ _ _ _ _ _ _ _ _ _ hJ hK (fun _ _ d _ _ h => by cases d <;> exact h)
      by_cases hin : 0 ≤ ix ∧ ix < (l.length : Int)
      · by_cases hB : wh = 3
        · exact sw_C w wS N nb sb k c ao l wh ix tn z sq bad d C hC HGW.out hNw (by omega) hlk hsq hM hN hS hk0 hNs HD.out HZD.out hB hin _ _ _ _ _ _ _ _ _ _ _ _ _ _ _ _ _ _ _ _ _ _ _ _ _ _ _ _ _ _ _ _ _ _ _ _ _ _ _ _ _ _ _ _ _ _ _ _ _ _ _ _ _ _ _ _ _ _ _ _ _ _ _ _ _ _ _ _ _ _ _ _ _ _ _ _ _ _ _ _ _ _ _ _ _ _ _ _ _ _ _ _ _ _ _ _ _ _ _ _ _ _ _ _ _ _ _ _ _ _ _ _ _ _ _ _ _ _ _ _ _ _ _ _ _ _ _ _ _ _ _ _ _ _ _ _ _ _ _ _ _ _ _ _ _ _ _ _ _ _ _ _ _ _ _ _ _ _ _ _ _ _ _ _ _ _ _ _ _ _ _ _ _ _ _ _ _ _ _ _ _ _ _ _ _ _ _ _ _ _ _ _ _ _ _ _ _ _ _ _ _ _ _ _ _ _ _ _ _ _ _ _ _ _ _ _ _ _ _ _ _ _ _ _ _ _ _ _ _ _ _ _ _ hJ hK (fun _ _ d _ _ h => by cases d <;> exact h)
        by_cases hB4 : wh = 4
        · exact sw_E w wS N nb sb k c ao l wh ix tn z sq bad d C hC HGW.out hNw (by omega) hlk hsq hM hN hS hk0 hNs HD.out HZD.out hB4 hin _ _ _ _ _ _ _ _ _ _ _ _ _ _ _ _ _ _ _ _ _ _ _ _ _ _ _ _ _ _ _ _ _ _ _ _ _ _ _ _ _ _ _ _ _ _ _ _ _ _ _ _ _ _ _ _ _ _ _ _ _ _ _ _ _ _ _ _ _ _ _ _ _ _ _ _ _ _ _ _ _ _ _ _ _ _ _ _ _ _ _ _ _ _ _ _ _ _ _ _ _ _ _ _ _ _ _ _ _ _ _ _ _ _ _ _ _ _ _ _ _ _ _ _ _ _ _ _ _ _ _ _ _ _ _ _ _ _ _ _ _ _ _ _ _ _ _ _ _ _ _ _ _ _ _ _ _ _ _ _ _ _ _ _ _ _ _ _ _ _ _ _ _ _ _ _ _ _ _ _ _ _ _ _ _ _ _ _ _ _ _ _ _ _ _ _ _ _ _ _ _ _ _ _ _ _ _ _ _ _ _ _ _ _ _ _ _ _ _ _ _ _ _ _ _ _ _ _ _ _ _ _ _ hJ hK (fun _ _ d _ _ h => by cases d <;> exact h)
        by_cases hB5 : wh = 5
        · exact sw_G w wS N nb sb k c ao l wh ix tn z sq bad d C hC HGW.out hNw (by omega) hlk hsq hM hN hS hk0 hNs HD.out HZD.out hB5 hin _ _ _ _ _ _ _ _ _ _ _ _ _ _ _ _ _ _ _ _ _ _ _ _ _ _ _ _ _ _ _ _ _ _ _ _ _ _ _ _ _ _ _ _ _ _ _ _ _ _ _ _ _ _ _ _ _ _ _ _ _ _ _ _ _ _ _ _ _ _ _ _ _ _ _ _ _ _ _ _ _ _ _ _ _ _ _ _ _ _ _ _ _ _ _ _ _ _ _ _ _ _ _ _ _ _ _ _ _ _ _ _ _ _ _ _ _ _ _ _ _ _ _ _ _ _ _ _ _ _ _ _ _ _ _ _ _ _ _ _ _ _ _ _ _ _ _ _ _ _ _ _ _ _ _ _ _ _ _ _ _ _ _ _ _ _ _ _ _ _ _ _ _ _ _ _ _ _ _ _ _ _ _ _ _ _ _ _ _ _ _ _ _ _ _ _ _ _ _ _ _ _ _ _ _ _ _ _ _ _ _ _ _ _ _ _ _ _ _ _ _ _ _ _ _ _ _ _ _ _ _ _ _ hJ hK (fun _ _ d _ _ h => by cases d <;> exact h)
        exact sw_I w wS N nb sb k c ao l wh ix tn z sq bad d C hC HGW.out hNw (by omega) hlk hsq hM hN hS hk0 hNs HD.out HZD.out hA hB hB4 hB5 _ _ _ _ _ _ _ _ _ _ _ _ _ _ _ _ _ _ _ _ _ _ _ _ _ _ _ _ _ _ _ _ _ _ _ _ _ _ _ _ _ _ _ _ _ _ _ _ _ _ _ _ _ _ _ _ _ _ _ _ _ _ _ _ _ _ _ _ _ _ _ _ _ _ _ _ _ _ _ _ _ _ _ _ _ _ _ _ _ _ _ _ _ _ _ _ _ _ _ _ _ _ _ _ _ _ _ _ _ _ _ _ _ _ _ _ _ _ _ _ _ _ _ _ _ _ _ _ _ _ _ _ _ _ _ _ _ _ _ _ _ _ _ _ _ _ _ _ _ _ _ _ _ _ _ _ _ _ _ _ _ _ _ _ _ _ _ _ _ _ _ _ _ _ _ _ _ _ _ _ _ _ _ _ _ _ _ _ _ _ _ _ _ _ _ _ _ _ _ _ _ _ _ _ _ _ _ _ _ _ _ _ _ _ _ _ _ _ _ _ _ _ _ _ _ _ _ _ _ _ _ _ _ hJ hK (fun _ _ d _ _ h => by cases d <;> exact h)
      · by_cases hB : wh = 3
        · exact sw_D w wS N nb sb k c ao l wh ix tn z sq bad d C hC HGW.out hNw (by omega) hlk hsq hM hN hS hk0 hNs HD.out HZD.out hB hin _ _ _ _ _ _ _ _ _ _ _ _ _ _ _ _ _ _ _ _ _ _ _ _ _ _ _ _ _ _ _ _ _ _ _ _ _ _ _ _ _ _ _ _ _ _ _ _ _ _ _ _ _ _ _ _ _ _ _ _ _ _ _ _ _ _ _ _ _ _ _ _ _ _ _ _ _ _ _ _ _ _ _ _ _ _ _ _ _ _ _ _ _ _ _ _ _ _ _ _ _ _ _ _ _ _ _ _ _ _ _ _ _ _ _ _ _ _ _ _ _ _ _ _ _ _ _ _ _ _ _ _ _ _ _ _ _ _ _ _ _ _ _ _ _ _ _ _ _ _ _ _ _ _ _ _ _ _ _ _ _ _ _ _ _ _ _ _ _ _ _ _ _ _ _ _ _ _ _ _ _ _ _ _ _ _ _ _ _ _ _ _ _ _ _ _ _ _ _ _ _ _ _ _ _ _ _ _ _ _ _ _ _ _ _ _ _ _ _ _ _ _ _ _ _ _ _ _ _ _ _ _ _ hJ hK (fun _ _ d _ _ h => by cases d <;> exact h)
        by_cases hB4 : wh = 4
        · exact sw_F w wS N nb sb k c ao l wh ix tn z sq bad d C hC HGW.out hNw (by omega) hlk hsq hM hN hS hk0 hNs HD.out HZD.out hB4 hin _ _ _ _ _ _ _ _ _ _ _ _ _ _ _ _ _ _ _ _ _ _ _ _ _ _ _ _ _ _ _ _ _ _ _ _ _ _ _ _ _ _ _ _ _ _ _ _ _ _ _ _ _ _ _ _ _ _ _ _ _ _ _ _ _ _ _ _ _ _ _ _ _ _ _ _ _ _ _ _ _ _ _ _ _ _ _ _ _ _ _ _ _ _ _ _ _ _ _ _ _ _ _ _ _ _ _ _ _ _ _ _ _ _ _ _ _ _ _ _ _ _ _ _ _ _ _ _ _ _ _ _ _ _ _ _ _ _ _ _ _ _ _ _ _ _ _ _ _ _ _ _ _ _ _ _ _ _ _ _ _ _ _ _ _ _ _ _ _ _ _ _ _ _ _ _ _ _ _ _ _ _ _ _ _ _ _ _ _ _ _ _ _ _ _ _ _ _ _ _ _ _ _ _ _ _ _ _ _ _ _ _ _ _ _ _ _ _ _ _ _ _ _ _ _ _ _ _ _ _ _ _ _ hJ hK (fun _ _ d _ _ h => by cases d <;> exact h)
        by_cases hB5 : wh = 5
        · exact sw_H w wS N nb sb k c ao l wh ix tn z sq bad d C hC HGW.out hNw (by omega) hlk hsq hM hN hS hk0 hNs HD.out HZD.out hB5 hin _ _ _ _ _ _ _ _ _ _ _ _ _ _ _ _ _ _ _ _ _ _ _ _ _ _ _ _ _ _ _ _ _ _ _ _ _ _ _ _ _ _ _ _ _ _ _ _ _ _ _ _ _ _ _ _ _ _ _ _ _ _ _ _ _ _ _ _ _ _ _ _ _ _ _ _ _ _ _ _ _ _ _ _ _ _ _ _ _ _ _ _ _ _ _ _ _ _ _ _ _ _ _ _ _ _ _ _ _ _ _ _ _ _ _ _ _ _ _ _ _ _ _ _ _ _ _ _ _ _ _ _ _ _ _ _ _ _ _ _ _ _ _ _ _ _ _ _ _ _ _ _ _ _ _ _ _ _ _ _ _ _ _ _ _ _ _ _ _ _ _ _ _ _ _ _ _ _ _ _ _ _ _ _ _ _ _ _ _ _ _ _ _ _ _ _ _ _ _ _ _ _ _ _ _ _ _ _ _ _ _ _ _ _ _ _ _ _ _ _ _ _ _ _ _ _ _ _ _ _ _ _ _ hJ hK (fun _ _ d _ _ h => by cases d <;> exact h)
        exact sw_I w wS N nb sb k c ao l wh ix tn z sq bad d C hC HGW.out hNw (by omega) hlk hsq hM hN hS hk0 hNs HD.out HZD.out hA hB hB4 hB5 _ _ _ _ _ _ _ _ _ _ _ _ _ _ _ _ _ _ _ _ _ _ _ _ _ _ _ _ _ _ _ _ _ _ _ _ _ _ _ _ _ _ _ _ _ _ _ _ _ _ _ _ _ _ _ _ _ _ _ _ _ _ _ _ _ _ _ _ _ _ _ _ _ _ _ _ _ _ _ _ _ _ _ _ _ _ _ _ _ _ _ _ _ _ _ _ _ _ _ _ _ _ _ _ _ _ _ _ _ _ _ _ _ _ _ _ _ _ _ _ _ _ _ _ _ _ _ _ _ _ _ _ _ _ _ _ _ _ _ _ _ _ _ _ _ _ _ _ _ _ _ _ _ _ _ _ _ _ _ _ _ _ _ _ _ _ _ _ _ _ _ _ _ _ _ _ _ _ _ _ _ _ _ _ _ _ _ _ _ _ _ _ _ _ _ _ _ _ _ _ _ _ _ _ _ _ _ _ _ _ _ _ _ _ _ _ _ _ _ _ _ _ _ _ _ _ _ _ _ _ _ _ _ hJ hK (fun _ _ d _ _ h => by cases d <;> exact h)
    case rest =>
    as_aux_lemma =>
    obtain ⟨l2, a2, c2, rfl, hl2, hM2, hN2, hS2, hk2⟩ := hcut
    clear hM hN hS hcS hlS hk0 HD HZD
    have q1 : IntKind.i64.wrap ((l2.length : Int) - 1) = l2.length - 1 := IntWalk.i64_in _ (by omega)
    go_wp2_with fail
    go_loopw [13, 14] (fun v13 v14 wx => ∃ (j : Nat) (r y : Int), v13 = .int .i64 r ∧ v14 = .int .i64 y ∧ y = (j : Int) - 1 ∧ j ≤ l2.length ∧ IsFst l2 tn j r ∧ MM wx N a2 c2 l2 ∧ NetG wx N nb l2 ∧ Blk wx sb 29 #[.int .i64 wh, .int .i64 ix, .int .i64 tn, .int .u64 (sq : Nat), .bool bad] ∧ Keeps [] w wx) (fun _ v _ => (intOf v + 1).toNat)
    case atStart => exact ⟨l2.length, -1, _, rfl, rfl, rfl, Nat.le_refl _, IsFst.nil _ _, hM2, hN2, hS2, hk2⟩
    case round =>
      obtain ⟨j, r, y, rfl, rfl, hy, hj, hr, hMj, hNj, hSj, hkj⟩ := hrel
      clear hM2 hN2 hS2 hk2 q1
      have HR := Lib.hid hr
      clear hr
      rcases Nat.eq_zero_or_pos j with hj0 | hj0
      · obtain rfl : y = -1 := by omega
        subst hj0
        clear hy
        go_wp2_with fail
        refine (glen hNj).mono ?_
        rintro e w' ⟨rfl, hw⟩
        obtain rfl := hw.symm
        clear hw
        have hcS := hSj.cell
        have hlS := hSj.lt
        go_wp2_with fail
        refine (gfind hNj tn).mono ?_
        rintro e w3 ⟨r', rfl, hr', hk3⟩
        obtain rfl := hr'.uniq HR.out
        clear hr' HR hcS hlS
        replace hMj := hMj.keep0 hk3
        replace hNj := hNj.keep0 hk3
        replace hSj := hSj.keep hk3 (by simp)
        replace hkj := hkj.trans hk3
        clear hk3
        go_wp2_with fail
        go_loopw [15] (fun v wx => ∃ p : Nat, v = .int .i64 (p : Int) ∧ p ≤ l2.length ∧ MM wx N a2 c2 l2 ∧ NetG wx N nb l2 ∧ Keeps [] w wx) (fun v _ => 5000 - (intOf v).toNat)
        case atStart => exact ⟨0, rfl, by omega, hMj, hNj, hkj⟩
        case round =>
          obtain ⟨p, rfl, hp, hMp, hNp, hkp⟩ := hrel
          clear hMj hNj hSj hkj
          by_cases hpl : p < l2.length
          · have n3 : (p : Int) < (l2.length : Int) := by omega
            have n4 : (0 : Int) ≤ (p : Int) := by omega
            have q2 : IntKind.i64.wrap ((p : Int) + 1) = p + 1 := IntWalk.i64_in _ (by omega)
            obtain ⟨⟨xt, xs⟩, hx⟩ : ∃ x, l2[p]? = some x := ⟨_, List.getElem?_eq_getElem hpl⟩
            have HX := Lib.hid hx
            clear hx
            go_wp2_with fail
            refine (gpeekM hNp p (xt, xs) HX.out).mono ?_
            rintro e w3 ⟨X, rfl, hX, hk3⟩
            replace hMp := hMp.keep0 hk3
            replace hNp := hNp.keep0 hk3
            replace hkp := hkp.trans hk3
            clear hk3
            have hXz := hX.size
            have HX1 := Lib.hid hX.one
            have HXQ := Lib.hid hX.seq
            have HXD := Lib.hid hX.dst
            have HXK := Lib.hid hX.kind
            clear hX
            go_upto_region 53 with (refine wpList_store_fresh rfl rfl 43 _ _ rfl (w3).heap.size ?_ rfl (X).toList ?_ _ _ ?_ ?_ ?_ ?_; rfl; rfl; (rw [Array.length_toList, hXz]; exact Tryd.sizeM); simp [hXz]; exact HX1.out)
            change Code.wp _ _ _ _ (World.alloc w3 (.cells X 43))
            have hBX := Blk.fresh w3 43 X
            have hkA := (Keeps.refl [] w3).alloc (.cells X 43)
            replace hMp := hMp.keep0 hkA
            replace hNp := hNp.keep0 hkA
            replace hkp := hkp.trans hkA
            clear hkA
            generalize World.alloc w3 _ = w4 at *
            generalize w3.heap.size = xb at *
            obtain ⟨g, rfl, hmc⟩ := hMp.at HX.out
            have c0 : w4.cell? ⟨xb, 0, none⟩ = some (.int .i64 1) := (hBX.cell 0).trans HXK.out
            have c2' : w4.cell? ⟨xb, 2, none⟩ = some (.int .i64 xt) := (hBX.cell 2).trans HXD.out
            have c14 : w4.cell? ⟨xb, 14, none⟩ = some (.int .u64 (xs : Nat)) := (hBX.cell 14).trans HXQ.out
            have d2 : w4.cell? ⟨g, p * 23 + 2, none⟩ = some (.int .i64 xt) := hmc 2 _ (ml2 _)
            have d14 : w4.cell? ⟨g, p * 23 + 14, none⟩ = some (.int .u64 (xs : Nat)) := hmc 14 _ (ml14 _)
            have hlX := hBX.lt
            have hlg := block_lt_of_cell d2
            clear hmc
            go_quiet (fail)
            have hkD := (Keeps.refl [] w4).drewN nq
            replace hMp := hMp.keep0 hkD
            replace hNp := hNp.keep0 hkD
            replace hkp := hkp.trans hkD
            clear hkD c0 c2' c14 d2 d14 hBX
            generalize World.drewN w4 nq = w5 at *
            go_wp2_with fail
            go_roundw
            case rel => exact ⟨p + 1, by simp, by omega, hMp, hNp, hkp⟩
            case measure => simp [intOf]; omega
          · obtain rfl : p = l2.length := by omega
            clear hpl hp
            go_wp2_with fail
            go_roundw
            case rel => exact ⟨k + 1, c2, a2, l2, by simp, by simp, by omega, by omega, hMp, hNp, hkp⟩
            case measure => simp [intOf]; omega
      · obtain ⟨i, rfl⟩ : ∃ i, j = i + 1 := ⟨j - 1, by omega⟩
        obtain rfl : y = (i : Int) := by omega
        clear hy hj0
        have hil : i < l2.length := by omega
        obtain ⟨⟨xt, xs⟩, hx⟩ : ∃ x, l2[i]? = some x := ⟨_, List.getElem?_eq_getElem hil⟩
        have HX := Lib.hid hx
        clear hx
        obtain ⟨g, rfl, hmc⟩ := hMj.at HX.out
        have n3 : (i : Int) < (l2.length : Int) := by omega
        have n4 : (0 : Int) ≤ (i : Int) := by omega
        have q2 : IntKind.i64.wrap ((i : Int) - 1) = (i : Int) - 1 := IntWalk.i64_in _ (by omega)
        have d2 : wr.cell? ⟨g, i * 23 + 2, none⟩ = some (.int .i64 xt) := hmc 2 _ (ml2 _)
        have hlg := block_lt_of_cell d2
        have hcS := hSj.cell
        have hlS := hSj.lt
        clear hmc
        go_upto_region 45 with (fail)
        go_quiet (fail)
        have hkD := (Keeps.refl [] wr).drewN nq
        replace hMj := hMj.keep0 hkD
        replace hNj := hNj.keep0 hkD
        replace hSj := hSj.keep hkD (by simp)
        replace hkj := hkj.trans hkD
        clear hkD d2 hcS hlS
        generalize World.drewN wr nq = w5 at *
        by_cases hxt : xt = tn
        · have e1 : (xt == tn) = true := by simp [hxt]
          have HXT := Lib.hid hxt
          clear hxt
          go_wp2_with fail
          go_roundw
          case rel => exact ⟨i, (i : Int), (i : Int) - 1, rfl, rfl, rfl, by omega, IsFst.hit HX.out HXT.out, hMj, hNj, hSj, hkj⟩
          case measure => simp [intOf]
        · have e1 : (xt == tn) = false := by simp [hxt]
          have HXT := Lib.hid hxt
          clear hxt
          go_wp2_with fail
          go_roundw
          case rel => exact ⟨i, r, (i : Int) - 1, rfl, rfl, rfl, by omega, IsFst.miss HX.out HXT.out HR.out, hMj, hNj, hSj, hkj⟩
          case measure => simp [intOf]
end Go.Proofs.YtllcidpmdmacjaaDoor
