/- WalPlays: the walk. -/
import Derived.Test.YtfgmbjdeimallaaGreatDoorVqZ
import Derived.Deep.DeepCutAuto
import Derived.Deep.CutBlock
import Derived.Deep.CutRange

namespace Go.Proofs.YtfgmbjdeimallaaGreatDoor
open Go.RowKit Go.Lib

theorem Tryz.sizeCrW : (Tryz.prog.info? 29).map (·.size) = some 1 := by kernel_rfl
theorem wsteps_len {H : Type} {enc : TypeId × Value → H} {w : World} {a : Option Addr} {len cap : Nat} (h : Rd enc w 34 [.slice a len cap]) : len ≤ 9223372036854775807 := by
  obtain ⟨a', len', cap', he, hlc, hcm, _⟩ := h.slice Tryz.underlying34 vin_step (by omega)
  simp only [List.cons.injEq, Value.slice.injEq, and_true] at he
  obtain ⟨rfl, rfl, rfl⟩ := he
  unfold maxLen at hcm
  omega
/-- looking for the state among those of may, from behind -/
def FoRel (w1 w : World) (vb db nb : Nat) (sW : Ws) (x : Stp) (ma : Option Addr) (mc : Nat) (ms : List Stp) (B n : Nat) (f : Bool) (k : Int) : Prop :=
  -1 ≤ k ∧ k < ms.length ∧ Reop w1 w vb db nb sW x ma mc ms [] B n ∧ (f = true → x.s = sW) ∧ (f = false → ∀ (j : Nat) m, k < j → ms[j]? = some m → m.s ≠ sW)

set_option maxRecDepth 1000000 in
set_option maxHeartbeats 40000000 in
theorem wlplays (za : Option Addr) (zc : Nat) (zl : List Wp) (w : World) (hg : (w).cell? ⟨0, 0, none⟩ = some (.iface 140 (.agg #[.pointer (some ⟨1, 38, none⟩)]))) (hz : WpIn w za zl) (hlen : zl.length ≤ 9223372036854775807) :
    Calls Tryz.prog 4 #[.slice za zl.length zc] w fun e w' => e = .returned (.bool true) ∧ Keeps [] w w' := by
  obtain ⟨i0, z0, hi, hzz, hsz, hby, hzc⟩ := infoSt
  obtain ⟨iE, zE, hiE, hzE, hsE, hbE, hcE⟩ := infoEn
  have HG := Lib.hid hg
  have HZ := Lib.hid hz
  clear hg hz
  go_enter Tryz.func4, Tryz.ntmps4
  go_wp2_with fail
  refine (wlknown w).mono ?_
  rintro e w0 ⟨rfl, hk0⟩
  have HF := Lib.hid (And.intro (wlfew za zc zl w0 (HZ.out.keep hk0) hlen) hk0)
  clear hk0
  go_wp2_with fail
  refine HF.out.1.mono ?_
  rintro e w2 ⟨q, rfl, hq, hk2⟩
  have HQ := Lib.hid (And.intro hq (HF.out.2.trans hk2))
  clear hq hk2 HF
  cases q with
  | false =>
    go_wp2_with fail
    go_ret
    exact ⟨rfl, HQ.out.2⟩
  | true =>
  have HFew := Lib.hid (HQ.out.1 rfl)
  go_wp2_with fail
  refine (dnew 65536 (by omega) w2).mono ?_
  rintro e w3 ⟨db, L3, rfl, hD, hk3, hL⟩
  have hO := wopen hD (by decide) (wf_new 65536 (by omega) 0) rfl
  have hL' : ∀ x ∈ L3, w.heap.size ≤ x := fun x hx => Nat.le_trans HQ.out.2.size (hL x hx)
  have HO := Lib.hid (And.intro hO (And.intro (HQ.out.2.trans hk3) hL'))
  clear hO hD hk3 hL hL'
  go_wp2_with fail
  refine HO.out.1.mono ?_
  intro e w4 hp
  obtain ⟨wb0, L4, E4, d4, s4, z4, rfl, hs, hS⟩ := hp.sure HO.out.2.1 HO.out.2.2 rfl (n := 0) (Nat.le_refl _)
  obtain rfl : s4 = Ws.nil := by simpa using hs
  have HS := Lib.hid hS
  clear hp hs hS HO
  have hB4 := Blk.fresh w4 57 (Stp.cells (⟨Ws.nil, none, 0⟩ : Stp))
  go_upto_region 11 with (first
    | (refine wpList_store_fresh rfl rfl _ _ _ rfl _ rfl rfl _ rfl _ _ Tryz.sizeSt (by simp) rfl ?_)
    | (refine wpList_load_agg rfl _ _ rfl w4.heap.size 0 5 rfl 57 _ _ hB4 Tryz.underlying57 rfl Tryz.sizeSt (by simp) _ rfl ?_)
    | (refine wpList_slice1 rfl 58 57 _ rfl i0 z0 (.agg (Stp.cells (⟨Ws.nil, none, 0⟩ : Stp))) 5 Tryz.underlying58 hi hzz hsz rfl rfl (by omega) (by omega) ?_))
  have hUp : PlUp w ((w4.alloc (.cells (Stp.cells (⟨Ws.nil, none, 0⟩ : Stp)) 57)).alloc (.cells (Stp.cells (⟨Ws.nil, none, 0⟩ : Stp)) 57)) wb0 db w4.heap.size (⟨Ws.nil, none, 0⟩ : Stp) (some ⟨w4.heap.size + 1, 0, none⟩) 1 [(⟨Ws.nil, none, 0⟩ : Stp)] [] 0 3 := by
    have hk := ((Keeps.refl [] w4).alloc (.cells (Stp.cells (⟨Ws.nil, none, 0⟩ : Stp)) 57)).alloc (.cells (Stp.cells (⟨Ws.nil, none, 0⟩ : Stp)) 57)
    have hS5 := HS.out.keep0 hk
    exact ⟨L4, E4, d4, z4, hS5.disk, hS5.wal, hS5.wj, hS5.count, PlM.init HS.out.keeps (fun b hb => ⟨HS.out.low b hb, HS.out.lt b hb⟩), by simp⟩
  have HUP := Lib.hid hUp
  clear hUp hB4
  change Code.wp _ _ _ _ ((w4.alloc (.cells (Stp.cells (⟨Ws.nil, none, 0⟩ : Stp)) 57)).alloc (.cells (Stp.cells (⟨Ws.nil, none, 0⟩ : Stp)) 57))
  try simp only [World.heap_alloc_size, World.size_alloc]
  generalize World.alloc (World.alloc w4 _) _ = w5 at *
  generalize w4.heap.size = nb at *
  have FEW : Hid (∀ y ∈ zl, y.l.length ≤ 12 ∧ y.keep.length ≤ 100) := Lib.hid (fun y hy => by
    obtain ⟨h1, h2⟩ := HFew.out.each y hy
    simp only [small, Bool.and_eq_true, decide_eq_true_eq] at h1
    exact ⟨by omega, h2⟩)
  have hl50 := HFew.out.len
  clear HS
  go_wp2_with fail
  go_loopw [4, 7, 8] (fun v4 v7 v8 wr => ∃ (i wb : Nat) (x : Stp) (ma : Option Addr) (mc : Nat) (ms : List Stp), v4 = .pointer (some ⟨wb, 0, none⟩) ∧ v7 = .slice ma ms.length mc ∧ v8 = .int .i64 (i : Int) ∧ i ≤ zl.length ∧ ms.length ≤ 1 + 12 * i ∧ PlUp w wr wb db nb x ma mc ms [] (sumW (zl.take i)) (3 + 10 * i)) (fun _ _ v8 _ => zl.length - (intOf v8).toNat)
  case atStart => exact ⟨0, wb0, (⟨Ws.nil, none, 0⟩ : Stp), _, 1, [(⟨Ws.nil, none, 0⟩ : Stp)], rfl, rfl, rfl, Nat.zero_le _, by simp, by simpa [sumW] using HUP.out⟩
  case round =>
    clear HUP
    obtain ⟨i, wb, x, ma, mc, ms, rfl, rfl, rfl, hi0, hml0, hUp⟩ := hrel
    have HU := Lib.hid hUp
    have HKW : Hid (Keeps [] w wr) := Lib.hid (by obtain ⟨L, E, d, z, h1, h2, h3, h4, h5, h6⟩ := hUp; exact h5.keeps)
    clear hUp
    rcases (by omega : i < zl.length ∨ ¬ i < zl.length) with hil | hil
    rotate_left
    · have n1 : ¬ ((i : Int) < (zl.length : Int)) := by omega
      go_wp2_with fail
      go_ret
      exact ⟨rfl, HKW.out⟩
    have n1 : (i : Int) < (zl.length : Int) := by omega
    have s1 : IntKind.i64.wrap ((i : Int) + 1) = i + 1 := IntWalk.i64_in _ (by omega)
    have hv := List.getElem?_eq_getElem hil
    have hmem := List.getElem_mem hil
    generalize zl[i] = y at hv hmem
    obtain ⟨hok, zb, zo, rfl, hc⟩ := (HZ.out.keep HKW.out) i y hv
    have hsucc := sumW_succ hv
    have htk := sumW_take zl (i + 1)
    have hsum := HFew.out.sum
    obtain ⟨B, hB⟩ : ∃ B, B = sumW (zl.take i) := ⟨_, rfl⟩
    rw [← hB] at HU hsucc
    have HBB := Lib.hid hB
    have HV := Lib.hid hv
    obtain ⟨wh, hwh⟩ : ∃ wh, wh = y.what := ⟨_, rfl⟩
    have HWH := Lib.hid hwh.symm
    have HY := Lib.hid (And.intro hok (And.intro (FEW.out y hmem) (And.intro hsucc (show B + sumE y.l ≤ 12000 by omega))))
    have hS := Blk.fresh wr 33 #[.int .i64 wh, .int .i64 y.n, .int .u64 (y.ix : Nat), .int .u64 (y.tm : Nat), .int .i64 y.vote, .slice y.la y.l.length y.lc, .slice y.ka y.keep.length y.kc]
    have hkS := (Keeps.refl [] wr).alloc (.cells #[.int .i64 wh, .int .i64 y.n, .int .u64 (y.ix : Nat), .int .u64 (y.tm : Nat), .int .i64 y.vote, .slice y.la y.l.length y.lc, .slice y.ka y.keep.length y.kc] 33)
    have H0 := Lib.hid (And.intro hS (And.intro (HU.out.new hkS (Nat.le_refl _)) (hok.keep hkS)))
    have HC := Lib.hid hc
    clear hok hc hv hmem hsucc htk hsum hS hkS hB
    go_upto_region 15 with (first
      | (refine wpList_load_run rfl _ _ rfl zb (zo + i * 7) rfl y.cells HC.out _ Tryz.underlying33 rfl (by rw [Tryz.sizeWp]; rfl) ?_)
      | (refine wpList_store_fresh rfl rfl _ _ _ rfl _ rfl rfl _ rfl _ _ Tryz.sizeWp (by simp [Wp.cells]) rfl ?_))
    change Code.wp _ _ _ _ (World.alloc wr (.cells #[.int .i64 y.what, .int .i64 y.n, .int .u64 (y.ix : Nat), .int .u64 (y.tm : Nat), .int .i64 y.vote, .slice y.la y.l.length y.lc, .slice y.ka y.keep.length y.kc] 33))
    rw [← hwh]
    clear hwh
    clear HC HU
    generalize wr.heap.size = sb at *
    generalize World.alloc wr _ = wS at *
    have hcS := H0.out.1.cell
    have hlS := H0.out.1.lt
    go_upto_block 2 with (fail)
    go_cut [5, 7] (fun v5 v7 wx => SwRel w wx wb db nb sb wh y (B + sumE y.l) (3 + 10 * i + 7) (1 + 12 * i + 12) v5 v7)
    case first =>
      rename_i J K hJ hK
      clear hcS hlS
      obtain ⟨h0a, h0b, h0c⟩ := H0.out
      have hn9 : 3 + 10 * i < 900000 := by omega
      have hM9 : 1 + 12 * i ≤ 900 := by omega
      by_cases hA : 0 ≤ wh ∧ wh ≤ 5
      · exact sw_does w wS db wb nb sb wh y x ma mc ms B (3 + 10 * i) (1 + 12 * i) HG.out HWH.out h0c HY.out.2.1.1 HY.out.2.2.2 hn9 hml0 hM9 h0a h0b hA _ _ _ _ _ _ _ _ _ _ _ _ _ _ _ _ _ _ _ _ _ _ _ _ _ _ _ _ _ _ _ _ _ _ _ _ _ _ _ _ _ _ _ _ _ _ _ _ _ _ _ _ _ _ _ _ _ _ _ _ _ _ _ _ _ _ _ _ _ _ _ _ _ _ _ _ _ _ _ _ _ _ _ _ _ _ _ _ _ _ _ _ _ _ _ _ _ _ _ _ _ _ _ _ _ _ _ _ _ _ _ _ _ _ _ _ _ _ _ _ _ _ _ _ _ _ _ _ _ _ _ _ _ _ _ _ _ _ _ _ _ _ _ _ _ _ _ _ _ _ _ _ _ _ _ _ _ _ _ _ _ _ _ _ _ _ _ _ _ _ _ _ _ _ _ _ _ _ _ _ _ _ _ _ _ _ _ _ _ _ J K _ hJ hK
      by_cases hB : wh = 6 ∨ wh = 7
      · exact sw_sync w wS db wb nb sb wh y x ma mc ms B (3 + 10 * i) (1 + 12 * i) HG.out HWH.out h0c HY.out.2.1.1 HY.out.2.2.2 hn9 hml0 hM9 h0a h0b hB _ _ _ _ _ _ _ _ _ _ _ _ _ _ _ _ _ _ _ _ _ _ _ _ _ _ _ _ _ _ _ _ _ _ _ _ _ _ _ _ _ _ _ _ _ _ _ _ _ _ _ _ _ _ _ _ _ _ _ _ _ _ _ _ _ _ _ _ _ _ _ _ _ _ _ _ _ _ _ _ _ _ _ _ _ _ _ _ _ _ _ _ _ _ _ _ _ _ _ _ _ _ _ _ _ _ _ _ _ _ _ _ _ _ _ _ _ _ _ _ _ _ _ _ _ _ _ _ _ _ _ _ _ _ _ _ _ _ _ _ _ _ _ _ _ _ _ _ _ _ _ _ _ _ _ _ _ _ _ _ _ _ _ _ _ _ _ _ _ _ _ _ _ _ _ _ _ _ _ _ _ _ _ _ _ _ _ _ _ _ J K _ hJ hK
      by_cases hC : wh = 8
      · exact sw_halt w wS db wb nb sb wh y x ma mc ms B (3 + 10 * i) (1 + 12 * i) HG.out HWH.out h0c HY.out.2.1.1 HY.out.2.2.2 hn9 hml0 hM9 h0a h0b hC _ _ _ _ _ _ _ _ _ _ _ _ _ _ _ _ _ _ _ _ _ _ _ _ _ _ _ _ _ _ _ _ _ _ _ _ _ _ _ _ _ _ _ _ _ _ _ _ _ _ _ _ _ _ _ _ _ _ _ _ _ _ _ _ _ _ _ _ _ _ _ _ _ _ _ _ _ _ _ _ _ _ _ _ _ _ _ _ _ _ _ _ _ _ _ _ _ _ _ _ _ _ _ _ _ _ _ _ _ _ _ _ _ _ _ _ _ _ _ _ _ _ _ _ _ _ _ _ _ _ _ _ _ _ _ _ _ _ _ _ _ _ _ _ _ _ _ _ _ _ _ _ _ _ _ _ _ _ _ _ _ _ _ _ _ _ _ _ _ _ _ _ _ _ _ _ _ _ _ _ _ _ _ _ _ _ _ _ _ _ J K _ hJ hK
      exact sw_none w wS db wb nb sb wh y x ma mc ms B (3 + 10 * i) (1 + 12 * i) HG.out HWH.out h0c HY.out.2.1.1 HY.out.2.2.2 hn9 hml0 hM9 h0a h0b (by omega) _ _ _ _ _ _ _ _ _ _ _ _ _ _ _ _ _ _ _ _ _ _ _ _ _ _ _ _ _ _ _ _ _ _ _ _ _ _ _ _ _ _ _ _ _ _ _ _ _ _ _ _ _ _ _ _ _ _ _ _ _ _ _ _ _ _ _ _ _ _ _ _ _ _ _ _ _ _ _ _ _ _ _ _ _ _ _ _ _ _ _ _ _ _ _ _ _ _ _ _ _ _ _ _ _ _ _ _ _ _ _ _ _ _ _ _ _ _ _ _ _ _ _ _ _ _ _ _ _ _ _ _ _ _ _ _ _ _ _ _ _ _ _ _ _ _ _ _ _ _ _ _ _ _ _ _ _ _ _ _ _ _ _ _ _ _ _ _ _ _ _ _ _ _ _ _ _ _ _ _ _ _ _ _ _ _ _ _ _ _ J K _ hJ hK
    case rest =>
    as_aux_lemma =>
    generalize wc = w6 at *
    obtain ⟨x2, ma2, mc2, ms2, rfl, hml2, hS2, hh⟩ := hcut
    have HH := Lib.hid (And.intro hh (And.intro hS2 (show ms2.length ≤ 1000 by omega)))
    have hkw6 : Keeps [] w w6 := by
      rcases hh with ⟨_, h⟩ | ⟨_, h⟩
      · exact h.keepsW
      · obtain ⟨L, d, h1, h2, h3, h4, h5⟩ := h
        exact h4.keeps
    have HK6 := Lib.hid hkw6
    have HN := Lib.hid (And.intro (show 3 + 10 * i + 7 < 900000 by omega) (And.intro (show B + sumE y.l = sumW (zl.take (i + 1)) by rw [HY.out.2.2.1, HBB.out]) (And.intro hil hml2)))
    clear hh hkw6 hml2 hml0 H0 hlS hi0 hl50
    have hcS := hS2.cell
    clear hS2
    go_upto_region 46 with (fail)
    go_cut [152] (fun v wx => (v = .bool false ∧ PlUp w wx wb db nb x2 ma2 mc2 ms2 [sb] (B + sumE y.l) (3 + 10 * i + 7) ∧ Keeps [] w6 wx) ∨ (v = .bool true ∧ PlDn w wx db nb x2 ma2 mc2 ms2 [sb] (B + sumE y.l) (3 + 10 * i + 7) ∧ Keeps [] w6 wx))
    case first =>
      by_cases h9 : wh = 9
      · have HD := Lib.hid (show PlDn w w6 db nb x2 ma2 mc2 ms2 [sb] (B + sumE y.l) (3 + 10 * i + 7) by
          rcases HH.out.1 with ⟨_, h⟩ | ⟨_, h⟩
          · exact h.down
          · exact h)
        subst h9
        go_wp2_with fail
        go_meet
        exact .inr ⟨by simp, HD.out, Keeps.refl _ _⟩
      rcases HH.out.1 with ⟨hv, hUp⟩ | ⟨rfl, hDn⟩
      · have hcls : ∃ c : Int, c ≠ 32 ∧ Calls Tryz.prog 12 #[u5] w6 fun e w' => e = .returned (.int .i64 c) ∧ Keeps [] w6 w' := by
          rcases hv with rfl | ⟨k, hb⟩
          · exact ⟨0, by decide, class_de (r := .ok) (w := w6) (ev := .nilIface) (HK6.out.cellSome HG.out (by simp)) rfl⟩
          · exact ⟨k, hb.2.1, class_bad (HK6.out.cellSome HG.out (by simp)) hb⟩
        obtain ⟨c, hc32, hcl⟩ := hcls
        have HCl := Lib.hid (And.intro hcl hUp)
        clear hcl hUp hv
        go_wp2_with fail
        refine HCl.out.1.mono ?_
        rintro e w7 ⟨rfl, hk7⟩
        have HU7 := Lib.hid (And.intro (HCl.out.2.keep0 hk7) hk7)
        clear hk7
        go_wp2_with fail
        go_meet
        exact .inl ⟨by simp [h9, hc32], HU7.out⟩
      · have HCl := Lib.hid (And.intro (class_de (r := .down) (w := w6) (HK6.out.cellSome HG.out (by simp)) rfl) hDn)
        clear hDn
        go_wp2_with fail
        refine HCl.out.1.mono ?_
        rintro e w7 ⟨rfl, hk7⟩
        simp only [show DRes.down.cls = 32 from rfl]
        have HU7 := Lib.hid (And.intro (HCl.out.2.keep0 hk7) hk7)
        clear hk7
        go_wp2_with fail
        go_meet
        exact .inr ⟨by simp, HU7.out⟩
    case rest =>
    generalize wc = w7 at *
    go_upto_if 152 with (fail)
    go_cut [4, 7] (fun v4 v7 wx => ∃ (vb : Nat) (x : Stp) (ma : Option Addr) (mc : Nat) (ms : List Stp), v4 = .pointer (some ⟨vb, 0, none⟩) ∧ v7 = .slice ma ms.length mc ∧ ms.length ≤ 1 + 12 * i + 12 ∧ PlUp w wx vb db nb x ma mc ms [] (B + sumE y.l) (3 + 10 * i + 10))
    case first =>
      rcases hcut with ⟨rfl, hUp, hk67⟩ | ⟨rfl, hDn, hk67⟩
      · have FIN := Lib.hid hUp
        clear hUp hk67
        go_wp2_with fail
        go_meet
        exact ⟨wb, x2, ma2, mc2, ms2, rfl, rfl, HN.out.2.2.2, (FIN.out.less).more (Nat.le_refl _) (by omega)⟩
      obtain ⟨L, d, hD, hF, hct, hPM, hX⟩ := hDn
      have hz2 := (HZ.out i y HV.out).1.sl
      have hkx : Keeps [] w w7 := hPM.keeps
      have hCr := dcrash hD y.keep (hz2.keep0 hkx) (fun ad e hne hx => by
        have h1 := hz2.lt e (by simpa using hne)
        have h2 := (hPM.lowK _ hx).1
        omega)
      have hS7 := HH.out.2.1.keep hk67 (by simp)
      have HC := Lib.hid (And.intro hCr (And.intro hF (And.intro hct (And.intro hPM (And.intro (hX sb (by simp)) hS7)))))
      have hcS := hS7.cell
      clear hD hF hct hPM hX hz2 hkx hCr hS7 hk67
      go_wp2_with (refine wpList_load_agg rfl _ _ rfl sb 6 1 rfl 33 _ _ HC.out.2.2.2.2.2 Tryz.underlying29 rfl Tryz.sizeCrW (by simp) _ rfl ?_)
      refine HC.out.1.mono ?_
      rintro e w8 ⟨rfl, hD8, hk8⟩
      have hM8 : PlM w w8 nb x2 ma2 mc2 ms2 L (B + sumE y.l) := HC.out.2.2.2.1.step hk8 (fun b hb => ⟨.inl hb, Nat.lt_of_lt_of_le (HC.out.2.2.2.1.lowK b hb).2 hk8.size⟩)
      have HO := Lib.hid (And.intro (wopen hD8 (by show d.count < _; have := HC.out.2.2.1; have := HN.out.1; omega) (crash_wf okO_nil HC.out.2.1 y.keep) rfl) hM8)
      clear hD8 hk8 hM8 hcS
      go_wp2_with fail
      refine HO.out.1.mono ?_
      intro e w9 hp
      obtain ⟨vb, sW, rfl, hRe⟩ := reop (n := 3 + 10 * i + 7) (X := []) (by show d.count ≤ _; exact HC.out.2.2.1) rfl HO.out.2 (by simp) hp
      have HR := Lib.hid hRe
      clear hp hRe
      have hlen2 : ms2.length ≤ 1000 := HH.out.2.2
      have s0 : IntKind.i64.wrap ((ms2.length : Int) - 1) = (ms2.length : Int) - 1 := IntWalk.i64_in _ (by omega)
      go_wp2_with fail
      go_loopw [12, 13] (fun v12 v13 wx => ∃ (f : Bool) (k : Int) (x' : Stp), v12 = .bool f ∧ v13 = .int .i64 k ∧ FoRel w wx vb db nb sW x' ma2 mc2 ms2 (B + sumE y.l) (3 + 10 * i + 10) f k) (fun _ v13 _ => (intOf v13 + 1).toNat)
      case atStart => exact ⟨false, (ms2.length : Int) - 1, x2, rfl, by simp, by omega, by omega, HR.out, by simp, fun _ j m hj hm => absurd (List.getElem?_eq_some_iff.1 hm).1 (by omega)⟩
      case round =>
        clear HR
        obtain ⟨f, k, x3, rfl, rfl, hk1, hk2, hRe, hft, hff⟩ := hrel
        have HR := Lib.hid hRe
        cases f with
        | true =>
          have HE := Lib.hid (hft rfl)
          obtain ⟨L9, E9, d9, z9, -, -, -, -, hM9, -, -⟩ := hRe
          have HB9 := Lib.hid hM9.now
          clear hft hff hM9
          rcases (by omega : k = -1 ∨ 0 ≤ k) with rfl | hk0
          · go_wp2_with (first
              | (refine wpList_load_agg rfl _ _ rfl nb 0 5 rfl 57 _ _ HB9.out Tryz.underlying57 rfl Tryz.sizeSt (by simp) _ rfl ?_)
              | (refine wpList_slice1 rfl 58 57 _ rfl i0 z0 (.agg x3.cells) 5 Tryz.underlying58 hi hzz hsz rfl rfl (by omega) (by omega) ?_))
            go_meet
            exact ⟨vb, x3, _, 1, [x3], rfl, rfl, by simp, HR.out.up HE.out⟩
          · go_wp2_with (first
              | (refine wpList_load_agg rfl _ _ rfl nb 0 5 rfl 57 _ _ HB9.out Tryz.underlying57 rfl Tryz.sizeSt (by simp) _ rfl ?_)
              | (refine wpList_slice1 rfl 58 57 _ rfl i0 z0 (.agg x3.cells) 5 Tryz.underlying58 hi hzz hsz rfl rfl (by omega) (by omega) ?_))
            go_meet
            exact ⟨vb, x3, _, 1, [x3], rfl, rfl, by simp, HR.out.up HE.out⟩
        | false =>
          obtain ⟨L9, E9, d9, z9, hD9, hW9, hJ9, hc9, hM9, hm9, -⟩ := hRe
          have hk0 : 0 ≤ k := by
            rcases (by omega : k = -1 ∨ 0 ≤ k) with h | h
            · exfalso
              obtain ⟨m, hm, hms⟩ := List.mem_map.1 hm9
              obtain ⟨j, hj, hjm⟩ := List.mem_iff_getElem.1 hm
              exact hff rfl j m (by omega) (by rw [List.getElem?_eq_getElem hj, hjm]) hms
            · exact h
          obtain ⟨j, rfl⟩ := Int.eq_ofNat_of_zero_le hk0
          have hjl : j < ms2.length := by omega
          have hg := List.getElem?_eq_getElem hjl
          have hmem := List.getElem_mem hjl
          generalize ms2[j] = m at hg hmem
          have hSl := hM9.own.sl (stps_one _)
          obtain ⟨eb, eo, hea⟩ := hSl.at (by have := hSl.cap; omega)
          subst hea
          have hes : entSum sW.es ≤ 12600 := by
            obtain ⟨m', hm', hms⟩ := List.mem_map.1 hm9
            have h1 := hM9.sums m' hm'
            have h2 := HY.out.2.2.2
            rw [hms] at h1
            omega
          have hsi := sis m (hM9.ats m hmem) hW9 (by have := entSum_len sW.es; omega)
          have HRUN := Lib.hid (And.intro (fun W (hk : Keeps [] _ W) => stps_at hg (hSl.keep0 hk)) (And.intro hsi (And.intro hM9.now (And.intro hff (And.intro hg hmem)))))
          have HRU := Lib.hid (stps_at hg hSl)
          have n2 : (j : Int) < (ms2.length : Int) := by omega
          have n3 : (0 : Int) ≤ (j : Int) := by omega
          have s2 : IntKind.i64.wrap ((j : Int) - 1) = (j : Int) - 1 := IntWalk.i64_in _ (by omega)
          clear hD9 hW9 hJ9 hc9 hM9 hm9 hg hmem hSl hes hsi hff hft
          go_wp2_with (refine wpList_load_run rfl _ _ rfl eb (eo + j * 5) rfl m.cells.toList HRU.out _ Tryz.underlying57 rfl Tryz.sizeSt ?_)
          refine HRUN.out.2.1.mono ?_
          rintro e w10 ⟨q, rfl, hq, hk10⟩
          have HR10 := Lib.hid (And.intro (HR.out.keep0 hk10) (And.intro (HRUN.out.1 _ hk10) (And.intro hq (HRUN.out.2.2.1.keep hk10 (by simp)))))
          clear hq hk10 HRU
          go_wp2_with (first
            | (refine wpList_load_run rfl _ _ rfl eb (eo + j * 5) rfl m.cells.toList HR10.out.2.1 _ Tryz.underlying57 rfl Tryz.sizeSt ?_)
            | (refine wpList_store_agg rfl rfl 57 _ _ rfl nb 0 rfl m.cells.toList rfl 57 _ HR10.out.2.2.2 Tryz.sizeSt (by simp) rfl _ rfl ?_; intro w11 hB11 hk11))
          have HFO : Hid (FoRel w w11 vb db nb sW m (some ⟨eb, eo, none⟩) mc2 ms2 (B + sumE y.l) (3 + 10 * i + 10) q ((j : Int) - 1)) := Lib.hid ⟨by omega, by omega, HR10.out.1.set HRUN.out.2.2.2.2.2 hB11 hk11, fun h => HR10.out.2.2.1.1 h, fun h j' m' hj' hm' => by
            rcases (by omega : j' = j ∨ j < j') with rfl | hlt
            · rw [HRUN.out.2.2.2.2.1] at hm'
              simp only [Option.some.injEq] at hm'
              subst hm'
              intro hms
              rw [HR10.out.2.2.1.2 hms] at h
              cases h
            · exact HRUN.out.2.2.2.1 (by simp) j' m' (by omega) hm'⟩
          clear hB11 hk11
          go_roundw
          case rel => exact ⟨q, (j : Int) - 1, m, rfl, rfl, HFO.out⟩
          case measure => simp [intOf]
    case rest =>
    generalize wc = w9 at *
    obtain ⟨vb, x3, ma3, mc3, ms3, rfl, rfl, hml3, hUp⟩ := hcut
    have HU3 := Lib.hid hUp
    obtain ⟨L, E, d, z, hD, hWa, hWJ, hct, hPM, hX⟩ := hUp
    have hes : entSum x3.s.es ≤ 12600 := by have := hPM.sums x3 hPM.mem; have := HY.out.2.2.2; omega
    have hsi := sis x3 (hPM.ats x3 hPM.mem) hWa (by have := entSum_len x3.s.es; omega)
    have HSI := Lib.hid (And.intro hsi (And.intro hPM.now hml3))
    clear hD hWa hWJ hct hPM hX hes hsi hcS hml3
    go_wp2_with (refine wpList_load_agg rfl _ _ rfl nb 0 5 rfl 57 _ _ HSI.out.2.1 Tryz.underlying57 rfl Tryz.sizeSt (by simp) _ rfl ?_)
    refine HSI.out.1.mono ?_
    rintro e w10 ⟨q, rfl, hq, hk10⟩
    obtain rfl : q = true := hq.2 rfl
    have HU4 := Lib.hid (HU3.out.keep0 hk10)
    clear hq hk10
    go_wp2_with fail
    go_roundw
    case rel => exact ⟨i + 1, vb, x3, ma3, mc3, ms3, rfl, rfl, by simp, by omega, by have := HSI.out.2.2; omega, by rw [← HN.out.2.1]; exact HU4.out⟩
    case measure => simp [intOf]; omega

end Go.Proofs.YtfgmbjdeimallaaGreatDoor
