/- DiskSure: what was synced stays, and then as much as the crash keeps. -/
import Derived.Test.YtcebbgmjbincbaaDoorDl1

namespace Go.Proofs.YtcebbgmjbincbaaDoor
open Go.RowKit Go.Lib

/-- the disk of DiskSure -/
def sst (ex : Bool) (all : List UInt8) (sure cnt : Nat) : DSt := ⟨if ex then [([102], ⟨all, sure⟩)] else [], 65536, cnt, -1, false⟩
theorem sst_append (ex : Bool) (all b : List UInt8) (sure cnt : Nat) (h : ex = false → all = [] ∧ sure = 0) (hl : all.length + b.length ≤ 1000) : (sst ex all sure cnt).append [102] b = (sst true (all ++ b) sure (cnt + 1), .ok) := by
  have hr : right [102] = true := by rfl
  cases ex with
  | false =>
    obtain ⟨rfl, rfl⟩ := h rfl
    simp [DSt.append, sst, hr, DSt.got, mget, usedOf, mput, DSt.tick]
    simp at hl
    omega
  | true =>
    simp [DSt.append, sst, hr, DSt.got, mget, usedOf, mput, DSt.tick]
    omega
theorem sst_sync (all : List UInt8) (sure cnt : Nat) : (sst true all sure cnt).sync [102] = (sst true all all.length (cnt + 1), .ok) := by
  simp [DSt.sync, sst, mget, mput, DSt.tick]
theorem sst_sync0 (cnt : Nat) : (sst false [] 0 cnt).sync [102] = (sst false [] 0 cnt, .bad [102] 30) := by
  simp [DSt.sync, sst, mget]
theorem sst_crash (ex : Bool) (all : List UInt8) (sure cnt : Nat) (k : Int) (kk : Nat) (hk : (kk : Int) = max 0 (min k ((all.length : Int) - (sure : Int)))) (hs : sure ≤ all.length) (h : ex = false → all = [] ∧ sure = 0) : (sst ex all sure cnt).crash [k] = sst ex (all.take (sure + kk)) (sure + kk) cnt := by
  cases ex with
  | false =>
    obtain ⟨rfl, rfl⟩ := h rfl
    obtain rfl : kk = 0 := by simp at hk; omega
    rfl
  | true =>
    have e : crashF [k] 0 ⟨all, sure⟩ = ⟨all.take (sure + kk), sure + kk⟩ := by
      have e2 : (min (max k 0) ((all.length - sure : Nat) : Int)).toNat = kk := by omega
      unfold crashF
      simp only [List.getElem?_cons_zero, e2]
    simp only [DSt.crash, sst, if_true, List.map_cons, List.map_nil, DSt.names, List.mergeSort_singleton]
    rw [show List.idxOf [102] [[(102 : UInt8)]] = 0 by rfl, e]
theorem sst_read (ex : Bool) (all : List UInt8) (sure cnt : Nat) (h : ex = false → all = []) : (sst ex all sure cnt).read [102] = (all, if ex then .ok else .bad [102] 30) := by
  cases ex with
  | false => rw [h rfl]; simp [DSt.read, sst, mget]
  | true => simp [DSt.read, sst, mget]
theorem sst_ok (ex : Bool) (all : List UInt8) (sure cnt : Nat) : (sst ex all sure cnt).count = cnt := rfl

set_option maxRecDepth 100000 in
set_option maxHeartbeats 8000000 in
theorem dsure (w : World) (hg : (w).cell? ⟨0, 0, none⟩ = some (.iface 148 (.agg #[.pointer (some ⟨1, 28, none⟩)]))) {la : Option Addr} {lc : Nat} {l : List UInt8} (hl : Rb w la lc l) {ka : Option Addr} {kc : Nat} {keep : List Int} (hk : Sl w 1 ka keep.length kc (keep.map (Value.int .i16))) (hkb : ∀ k ∈ keep, -32768 ≤ k ∧ k ≤ 32767) :
    Calls Tryd.prog 3 #[.slice la l.length lc, .slice ka keep.length kc] w fun e w' => e = .returned (.bool true) ∧ Keeps [] w w' := by
  obtain ⟨iB, zB, hiB, hzB, hsB, hbB, hcB⟩ := infoB
  go_enter Tryd.func3, Tryd.ntmps3
  go_wp2_with fail
  refine (dknown w hg).mono ?_
  rintro e w1 ⟨rfl, hk1⟩
  by_cases hbig : 60 < l.length ∨ 60 < keep.length
  · rcases hbig with hb | hb
    · have m1 : (60 : Int) < (l.length : Int) := by omega
      go_wp2_with fail
      go_ret
      exact ⟨rfl, hk1⟩
    · have m2 : (60 : Int) < (keep.length : Int) := by omega
      by_cases hb1 : 60 < l.length
      · have m1 : (60 : Int) < (l.length : Int) := by omega
        go_wp2_with fail
        go_ret
        exact ⟨rfl, hk1⟩
      · have m1 : ¬ ((60 : Int) < (l.length : Int)) := by omega
        go_wp2_with fail
        go_ret
        exact ⟨rfl, hk1⟩
  have m1 : ¬ ((60 : Int) < (l.length : Int)) := by omega
  have m2 : ¬ ((60 : Int) < (keep.length : Int)) := by omega
  go_wp2_with fail
  refine (dnew 65536 (by omega) w1).mono ?_
  rintro e w2 ⟨db, L, rfl, hD, hk2, hL⟩
  have HD := Lib.hid (And.intro hD (And.intro (hk1.trans hk2) hL))
  have HL := Lib.hid hl
  have HK := Lib.hid (And.intro hk hkb)
  have hs1 := hk1.size
  have hll : l.length ≤ 60 := by omega
  have hkl : keep.length ≤ 60 := by omega
  clear hD hL hk1 hk2 hl hk hkb hbig
  go_wp2_with fail
  go_loopw [6, 7, 8, 9] (fun v6 v7 v8 v9 wr => ∃ (i falls sure cnt : Nat) (all : List UInt8) (ao : Option Addr) (c : Nat) (ex : Bool) (L' : List Nat), v6 = .slice ao all.length c ∧ v7 = .int .i64 (sure : Int) ∧ v8 = .int .i64 (falls : Int) ∧ v9 = .int .i64 (i : Int) ∧ i ≤ l.length ∧ falls ≤ i ∧ cnt ≤ i ∧ sure ≤ all.length ∧ all.length ≤ 2 * i ∧ (ex = false → all = [] ∧ sure = 0) ∧ OwnG wr ao c all ∧ Disk wr L' db (sst ex all sure cnt) ∧ (∀ x ∈ blks ao, x ∉ L' ∧ w.heap.size ≤ x) ∧ (∀ x ∈ L', w.heap.size ≤ x) ∧ Keeps [] w wr) (fun _ _ _ v _ => l.length - (intOf v).toNat)
  case atStart => exact ⟨0, 0, 0, 0, [], none, 0, false, L, rfl, rfl, rfl, rfl, by omega, by omega, by omega, by omega, by simp, fun _ => ⟨rfl, rfl⟩, OwnG.nil _, HD.out.1, by simp, fun x hx => Nat.le_trans hs1 (HD.out.2.2 x hx), HD.out.2.1⟩
  case round =>
    obtain ⟨i, falls, sure, cnt, all, ao, c, ex, L', rfl, rfl, rfl, rfl, hil, hfi, hci, hsa, hai, hex, hO, hDr, hal, hLr, hkr⟩ := hrel
    rcases (by omega : i = l.length ∨ i < l.length) with hie | hlt
    · have n1 : ¬ ((i : Int) < (l.length : Int)) := by omega
      clear hie
      go_wp2_with fail
      go_ret
      exact ⟨rfl, hkr⟩
    obtain ⟨b, hb⟩ : ∃ b, l[i]? = some b := ⟨_, List.getElem?_eq_getElem hlt⟩
    have n1 : (i : Int) < (l.length : Int) := by omega
    have n2 : (0 : Int) ≤ (i : Int) := by omega
    obtain ⟨bb, oo, rfl⟩ : ∃ b o, la = some ⟨b, o, none⟩ := HL.out.at (by have := HL.out.cap; omega)
    have hlc : wr.cell? ⟨bb, oo + i, none⟩ = some (.int .u8 (b.toNat : Nat)) := by
      have := (HL.out.keep0 hkr).cell _ rfl i (.int .u8 (b.toNat : Nat)) (by rw [show bys l = l.map fun b => Value.int .u8 b.toNat from rfl, List.getElem?_map, hb]; rfl)
      simpa using this
    have hbl : bb < wr.heap.size := block_lt_of_cell hlc
    have hbw : bb < w.heap.size := HL.out.lt rfl (fun h => by have := congrArg List.length h; rw [bys_length] at this; simp only [List.length_nil] at this; omega)
    have hq1 : IntKind.i64.wrap ((i : Int) + 1) = i + 1 := IntWalk.i64_in _ (by omega)
    have hq2 : IntKind.u8.wrap (i : Int) = i := by simp only [IntKind.wrap_u8]; omega
    obtain ⟨i8, hi8⟩ : ∃ i8 : UInt8, i8.toNat = i := ⟨UInt8.ofNat i, by simp; omega⟩
    obtain ⟨r, hr⟩ : ∃ r : Nat, r = b.toNat % 5 := ⟨_, rfl⟩
    have hr1 : ((b.toNat : Nat) : Int).tmod 5 = (r : Int) := by rw [Int.tmod_eq_emod_of_nonneg (by omega)]; omega
    have hr5 : r < 5 := by omega
    have HB := Lib.hid hb
    have HS := Lib.hid (And.intro hO (And.intro hDr (And.intro hal (And.intro hLr hkr))))
    have HX := Lib.hid hex
    have HI8 := Lib.hid hi8
    clear hb hr hO hDr hal hLr hkr hex hi8
    go_upto_block 2 with (fail)
    go_cut [6, 7, 8] (fun v6 v7 v8 wx => ∃ (falls' sure' cnt' : Nat) (all' : List UInt8) (ao' : Option Addr) (c' : Nat) (ex' : Bool) (L' : List Nat), v6 = .slice ao' all'.length c' ∧ v7 = .int .i64 (sure' : Int) ∧ v8 = .int .i64 (falls' : Int) ∧ falls' ≤ i + 1 ∧ cnt' ≤ i + 1 ∧ sure' ≤ all'.length ∧ all'.length ≤ 2 * (i + 1) ∧ (ex' = false → all' = [] ∧ sure' = 0) ∧ OwnG wx ao' c' all' ∧ Disk wx L' db (sst ex' all' sure' cnt') ∧ (∀ x ∈ blks ao', x ∉ L' ∧ w.heap.size ≤ x) ∧ (∀ x ∈ L', w.heap.size ≤ x) ∧ Keeps [] w wx)
    case first =>
      rcases (by omega : r < 3 ∨ r = 3 ∨ r = 4) with hr3 | rfl | rfl
      · have hap := sst_append ex all [b, i8] sure cnt HX.out (by simp; omega)
        have hcells : (bys [b, i8]).toArray = #[.int .u8 (b.toNat : Nat), .int .u8 (i : Nat)] := by simp [bys, HI8.out]
        obtain ⟨hO, hDr, hal, hLr, hkr⟩ := HS.out
        have hA := dappend_new hDr [102] [b, i8] (by decide) (by simp) (by rw [sst_ok]; omega) (0, 0)
        rw [hcells, hap] at hA
        have HA := Lib.hid hA
        have HC := Lib.hid hcells
        clear hA hap hcells hO hDr hal hLr hkr
        have hr3' : r = 0 ∨ r = 1 ∨ r = 2 := by omega
        rcases hr3' with rfl | rfl | rfl
        all_goals
          go_wp2_with fail
          refine HA.out.mono ?_
          rintro e w4 ⟨ev, L4, rfl, hE, hD4, hk4, hL4⟩
          obtain rfl : ev = .nilIface := hE
          obtain ⟨hO, hDr, hal, hLr, hkr⟩ := HS.out
          have hk04 := hkr.step hk4 (fun x hx => .inr (hLr x hx))
          have hL04 : ∀ x ∈ L4, w.heap.size ≤ x := fun x hx => (hL4 x hx).elim (hLr x) (fun h => Nat.le_trans hkr.size h)
          have hO4 := hO.keep hk4 (fun x hx => (hal x hx).1)
          have hal4 : ∀ x ∈ blks ao, x ∉ L4 ∧ w.heap.size ≤ x := fun x hx => ⟨fun h4 => (hL4 x h4).elim (hal x hx).1 (fun h => by have := hO.lt x hx; omega), (hal x hx).2⟩
          have hlc4 := hk4.cellSome hlc (fun h => by have h2 : w.heap.size ≤ bb := hLr _ h; omega)
          have hbl4 : bb < w4.heap.size := block_lt_of_cell hlc4
          have hkA := (Keeps.refl [] w4).alloc (.cells #[.int .u8 (b.toNat : Nat), .int .u8 (i : Nat)] 5)
          have hOA := hO4.keep0 hkA
          have hRA : Rb (w4.alloc (.cells #[.int .u8 (b.toNat : Nat), .int .u8 (i : Nat)] 5)) (some ⟨w4.heap.size, 0, none⟩) 2 [b, i8] := by
            have := rb_mark w4 [b, i8] (0, 0) (by simp; unfold maxLen; omega)
            rw [HC.out] at this
            exact this
          have HS4 := Lib.hid (And.intro hD4 (And.intro hal4 (And.intro hL04 (And.intro hk04 hkA))))
          clear hlc hbl hO hDr hal hLr hkr hk4 hL4 hO4 hD4 hal4 hL04 hk04 hkA
          go_wp2_with (at_builtin; refine wpList_append_bg _ rfl _ _ 22 22 rfl iB zB Tryd.underlying22 hiB hzB hsB hbB hcB ao c all rfl hOA _ rfl [b, i8] (hRA.src Tryd.underlying22) (by simp; unfold maxLen; omega) (by simp; omega) ?_; intro a5 c5 w5 hO5 hk5 hb5)
          go_meet
          obtain ⟨hD4, hal4, hL04, hk04, hkA⟩ := HS4.out
          have hltA : ∀ x ∈ L4, x < w4.heap.size := hD4.lt
          refine ⟨falls, sure, cnt + 1, all ++ [b, i8], a5, c5, true, L4, by simp, rfl, rfl, by omega, by omega, by simp; omega, by simp; omega, by simp, hO5, (hD4.keep0 hkA).keep hk5 (fun x hx hx2 => (hal4 x hx2).1 hx), fun x hx => ?_, hL04, (hk04.trans hkA).step hk5 (fun x hx => .inr (hal4 x hx).2)⟩
          rcases hb5 x hx with h1 | h1
          · exact hal4 x h1
          · simp at h1
            exact ⟨fun h2 => by have := hltA x h2; omega, by have := hk04.size; omega⟩
      · obtain ⟨hO, hDr, hal, hLr, hkr⟩ := HS.out
        have hcl : ∀ x ∈ blks ao, x < wr.heap.size := hO.lt
        cases ex with
        | true =>
          have hA := dsync hDr [102] (by rw [sst_ok]; omega)
          rw [sst_sync] at hA
          have HA := Lib.hid hA
          clear hA hO hDr hal hLr hkr hcl
          go_wp2_with fail
          refine HA.out.mono ?_
          rintro e w4 ⟨ev, L4, rfl, hE, hD4, hk4, hL4⟩
          obtain rfl : ev = .nilIface := hE
          have HE := Lib.hid (And.intro hD4 (And.intro hk4 hL4))
          clear hD4 hk4 hL4
          go_wp2_with fail
          go_meet
          obtain ⟨hD4, hk4, hL4⟩ := HE.out
          obtain ⟨hO, hDr, hal, hLr, hkr⟩ := HS.out
          exact ⟨falls, all.length, cnt + 1, all, ao, c, true, L4, rfl, rfl, rfl, by omega, by omega, Nat.le_refl _, by omega, by simp, hO.keep hk4 (fun x hx => (hal x hx).1), hD4, fun x hx => ⟨fun h4 => (hL4 x h4).elim (hal x hx).1 (fun h => by have := hO.lt x hx; omega), (hal x hx).2⟩, fun x hx => (hL4 x hx).elim (hLr x) (fun h => Nat.le_trans hkr.size h), hkr.step hk4 (fun x hx => .inr (hLr x hx))⟩
        | false =>
          obtain ⟨rfl, rfl⟩ := HX.out rfl
          have hA := dsync hDr [102] (by rw [sst_ok]; omega)
          rw [sst_sync0] at hA
          have HA := Lib.hid hA
          clear hA hO hDr hal hLr hkr hcl
          go_wp2_with fail
          refine HA.out.mono ?_
          rintro e w4 ⟨ev, L4, rfl, hE, hD4, hk4, hL4⟩
          obtain ⟨hO, hDr, hal, hLr, hkr⟩ := HS.out
          have hk04 := hkr.step hk4 (fun x hx => .inr (hLr x hx))
          have hC := class_de (hk04.cellSome hg (by simp)) hE
          obtain ⟨g, rfl, hgB⟩ := hE
          have HE := Lib.hid (And.intro hD4 (And.intro hk4 (And.intro hL4 hC)))
          clear hD4 hk4 hL4 hO hDr hal hLr hkr hk04 hC hgB
          go_wp2_with fail
          refine HE.out.2.2.2.mono ?_
          rintro e w5 ⟨rfl, hk5⟩
          go_wp2_with fail
          go_meet
          obtain ⟨hD4, hk4, hL4, _⟩ := HE.out
          obtain ⟨hO, hDr, hal, hLr, hkr⟩ := HS.out
          exact ⟨falls, 0, cnt, [], ao, c, false, L4, rfl, rfl, rfl, by omega, by omega, Nat.le_refl _, by simp, fun _ => ⟨rfl, rfl⟩, (hO.keep hk4 (fun x hx => (hal x hx).1)).keep0 hk5, hD4.keep0 hk5, fun x hx => ⟨fun h4 => (hL4 x h4).elim (hal x hx).1 (fun h => by have := hO.lt x hx; omega), (hal x hx).2⟩, fun x hx => (hL4 x hx).elim (hLr x) (fun h => Nat.le_trans hkr.size h), (hkr.step hk4 (fun x hx => .inr (hLr x hx))).trans hk5⟩
      · have hq3 : IntKind.i64.wrap ((falls : Int) + 1) = falls + 1 := IntWalk.i64_in _ (by omega)
        have hf0 : (0 : Int) ≤ (falls : Int) := by omega
        obtain ⟨kv, hkv⟩ : ∃ kv : Int, kv = (keep[falls]?).getD 0 := ⟨_, rfl⟩
        obtain ⟨kk, hkk⟩ : ∃ kk : Nat, (kk : Int) = max 0 (min kv ((all.length : Int) - (sure : Int))) := ⟨(max 0 (min kv ((all.length : Int) - (sure : Int)))).toNat, by omega⟩
        have HKK := Lib.hid hkk
        have hkl2 : kk ≤ all.length - sure := by omega
        have HKV := Lib.hid hkv
        clear hkk hkv
        by_cases hfk : falls < keep.length
        · have hm : (falls : Int) < (keep.length : Int) := by omega
          have hkv : keep[falls]? = some kv := by
            rw [HKV.out, List.getElem?_eq_getElem hfk]
            rfl
          obtain ⟨kb, ko, rfl⟩ : ∃ b o, ka = some ⟨b, o, none⟩ := HK.out.1.at (by have := HK.out.1.cap; omega)
          have hkc : wr.cell? ⟨kb, ko + falls, none⟩ = some (.int .i16 kv) := by
            have := (HK.out.1.keep0 HS.out.2.2.2.2).cell _ rfl falls (.int .i16 kv) (by rw [List.getElem?_map, hkv]; rfl)
            simpa using this
          have hkvb := HK.out.2 kv (List.mem_of_getElem? hkv)
          have hq6 : IntKind.i64.wrap kv = kv := IntWalk.i64_in _ (by omega)
          clear hkv
          have hsl : ((sure + kk : Nat) : Int) ≤ (all.length : Int) := by omega
          have hq4 : IntKind.i64.wrap ((all.length : Int) - (sure : Int)) = (all.length : Int) - (sure : Int) := IntWalk.i64_in _ (by omega)
          have hq5 : IntKind.i64.wrap ((sure : Int) + (kk : Int)) = ((sure + kk : Nat) : Int) := by
            rw [IntWalk.i64_in _ (by omega)]
            omega
          have hcr := sst_crash ex all sure cnt kv kk HKK.out hsa HX.out
          obtain ⟨hO, hDr, hal, hLr, hkr⟩ := HS.out
          have hkA := (Keeps.refl [] wr).alloc (.cells #[.int .i64 kv] 3)
          have hSA : Sl (wr.alloc (.cells #[.int .i64 kv] 3)) 1 (some ⟨wr.heap.size, 0, none⟩) 1 1 ([kv].map (Value.int .i64)) := Sl.of_blk (n := 1) (sz := 1) (Blk.fresh wr 3 #[.int .i64 kv]) rfl (by decide) (fun u hu => by simp at hu; subst hu; rfl)
          have hA := dcrash (hDr.keep0 hkA) [kv] hSA (fun ad e _ hx => by cases e; have := hDr.lt _ hx; simp at this)
          rw [hcr] at hA
          have HA := Lib.hid (And.intro hA hkA)
          have hcap := hO.caps
          have hp1 : (0 : Int) ≤ ((sure + kk : Nat) : Int) := by omega
          have hp2 : ((sure + kk : Nat) : Int) ≤ (c : Int) := by omega
          have hmx := HKK.out.symm
          clear hA hSA hkA hO hDr hal hLr hkr hcr
          have HQ := Lib.hid (And.intro hq4 (And.intro hq5 (And.intro hmx (And.intro hp1 hp2))))
          clear hq4 hq5 hmx hp1 hp2
          go_upto_region 18 with (fail)
          refine HA.out.1.mono ?_
          rintro e w4 ⟨rfl, hD4, hk4⟩
          have HE := Lib.hid (And.intro hD4 hk4)
          clear hD4 hk4
          obtain ⟨hq4, hq5, hmx, hp1, hp2⟩ := HQ.out
          obtain ⟨p, hp⟩ : ∃ p, p = sure + kk := ⟨_, rfl⟩
          rw [← hp] at hq5 hp1 hp2 hsl
          have HP := Lib.hid hp
          clear hp
          go_wp2_with fail
          go_meet
          obtain ⟨hD4, hk4⟩ := HE.out
          obtain ⟨hO, hDr, hal, hLr, hkr⟩ := HS.out
          rw [← HP.out] at hD4
          have hpl : p ≤ all.length := by omega
          refine ⟨falls + 1, p, cnt, all.take p, ao, c, ex, L', by rw [List.length_take, Nat.min_eq_left hpl], by first | rfl | (rw [List.length_take, Nat.min_eq_left hpl]), by simp, by omega, by omega, by rw [List.length_take]; omega, by rw [List.length_take]; omega, fun h => ?_, ((hO.keep0 HA.out.2).keep hk4 (fun x hx => (hal x hx).1)).cut hpl (by omega) (Nat.le_refl _), hD4, hal, hLr, (hkr.trans HA.out.2).step hk4 (fun x hx => .inr (hLr x hx))⟩
          obtain ⟨h1, h2⟩ := HX.out h
          subst h1
          exact ⟨by simp, by simp at hpl; omega⟩
        · have hm : ¬ ((falls : Int) < (keep.length : Int)) := by omega
          obtain rfl : kv = 0 := by rw [HKV.out, List.getElem?_eq_none (by omega)]; rfl
          have hsl : ((sure + kk : Nat) : Int) ≤ (all.length : Int) := by omega
          have hq4 : IntKind.i64.wrap ((all.length : Int) - (sure : Int)) = (all.length : Int) - (sure : Int) := IntWalk.i64_in _ (by omega)
          have hq5 : IntKind.i64.wrap ((sure : Int) + (kk : Int)) = ((sure + kk : Nat) : Int) := by
            rw [IntWalk.i64_in _ (by omega)]
            omega
          have hcr := sst_crash ex all sure cnt 0 kk HKK.out hsa HX.out
          obtain ⟨hO, hDr, hal, hLr, hkr⟩ := HS.out
          have hkA := (Keeps.refl [] wr).alloc (.cells #[.int .i64 0] 3)
          have hSA : Sl (wr.alloc (.cells #[.int .i64 0] 3)) 1 (some ⟨wr.heap.size, 0, none⟩) 1 1 ([0].map (Value.int .i64)) := Sl.of_blk (n := 1) (sz := 1) (Blk.fresh wr 3 #[.int .i64 0]) rfl (by decide) (fun u hu => by simp at hu; subst hu; rfl)
          have hA := dcrash (hDr.keep0 hkA) [0] hSA (fun ad e _ hx => by cases e; have := hDr.lt _ hx; simp at this)
          rw [hcr] at hA
          have HA := Lib.hid (And.intro hA hkA)
          have hcap := hO.caps
          have hp1 : (0 : Int) ≤ ((sure + kk : Nat) : Int) := by omega
          have hp2 : ((sure + kk : Nat) : Int) ≤ (c : Int) := by omega
          have hmx := HKK.out.symm
          clear hA hSA hkA hO hDr hal hLr hkr hcr
          have HQ := Lib.hid (And.intro hq4 (And.intro hq5 (And.intro hmx (And.intro hp1 hp2))))
          clear hq4 hq5 hmx hp1 hp2
          go_upto_region 18 with (fail)
          refine HA.out.1.mono ?_
          rintro e w4 ⟨rfl, hD4, hk4⟩
          have HE := Lib.hid (And.intro hD4 hk4)
          clear hD4 hk4
          obtain ⟨hq4, hq5, hmx, hp1, hp2⟩ := HQ.out
          obtain ⟨p, hp⟩ : ∃ p, p = sure + kk := ⟨_, rfl⟩
          rw [← hp] at hq5 hp1 hp2 hsl
          have HP := Lib.hid hp
          clear hp
          go_wp2_with fail
          go_meet
          obtain ⟨hD4, hk4⟩ := HE.out
          obtain ⟨hO, hDr, hal, hLr, hkr⟩ := HS.out
          rw [← HP.out] at hD4
          have hpl : p ≤ all.length := by omega
          refine ⟨falls + 1, p, cnt, all.take p, ao, c, ex, L', by rw [List.length_take, Nat.min_eq_left hpl], by first | rfl | (rw [List.length_take, Nat.min_eq_left hpl]), by simp, by omega, by omega, by rw [List.length_take]; omega, by rw [List.length_take]; omega, fun h => ?_, ((hO.keep0 HA.out.2).keep hk4 (fun x hx => (hal x hx).1)).cut hpl (by omega) (Nat.le_refl _), hD4, hal, hLr, (hkr.trans HA.out.2).step hk4 (fun x hx => .inr (hLr x hx))⟩
          obtain ⟨h1, h2⟩ := HX.out h
          subst h1
          exact ⟨by simp, by simp at hpl; omega⟩
    case rest =>
    obtain ⟨falls', sure', cnt', all', ao', c', ex', L4, rfl, rfl, rfl, hfi', hci', hsa', hai', hex', hO, hD, hal', hLr', hkr'⟩ := hcut
    have hR := dread hD [102]
    rw [sst_read ex' all' sure' cnt' (fun h => (hex' h).1)] at hR
    have HR := Lib.hid hR
    have HX' := Lib.hid hex'
    have HS' := Lib.hid (And.intro hO (And.intro hD (And.intro hal' (And.intro hLr' hkr'))))
    clear hR hex' hO hD hal' hLr' hkr' hlc hbl
    go_wp2_with fail
    refine HR.out.mono ?_
    rintro e w5 ⟨bo, bc, ev, rfl, hE, hOb, hk5⟩
    obtain ⟨hO, hD, hal', hLr', hkr'⟩ := HS'.out
    have hO5 := hO.keep0 hk5
    have hB := bytes_any bo ao' bc c' all' all' w5 hOb.rb hO5.rb
    have hk05 := hkr'.trans hk5
    have hC := class_de (hk05.cellSome hg (by simp)) hE
    have HE := Lib.hid (And.intro hB (And.intro hk5 hC))
    have HOb := Lib.hid hOb
    clear hB hC hO hD hal' hLr' hkr' hO5 hk05
    cases ex' with
    | true =>
      obtain rfl : ev = .nilIface := hE
      clear hk5 hOb
      go_wp2_with fail
      refine HE.out.1.mono ?_
      rintro e w6 ⟨rfl, hw⟩
      obtain rfl := hw.symm
      rw [beq_self_eq_true]
      go_wp2_with fail
      go_roundw
      case rel =>
        obtain ⟨hO, hD, hal', hLr', hkr'⟩ := HS'.out
        exact ⟨i + 1, falls', sure', cnt', all', ao', c', true, L4, rfl, rfl, rfl, by simp, by omega, by omega, by omega, hsa', hai', HX'.out, hO.keep0 HE.out.2.1, hD.keep0 HE.out.2.1, hal', hLr', hkr'.trans HE.out.2.1⟩
      case measure => simp [intOf]; omega
    | false =>
      obtain ⟨rfl, rfl⟩ := HX'.out rfl
      obtain ⟨g, rfl, hgB⟩ := hE
      clear hk5 hOb hgB
      go_wp2_with fail
      refine HE.out.2.2.mono ?_
      rintro e w6 ⟨rfl, hk6⟩
      have hB6 := bytes_any bo ao' bc c' [] [] w6 (HOb.out.rb.keep0 hk6) (((HS'.out.1.keep0 HE.out.2.1).keep0 hk6).rb)
      have HB6 := Lib.hid hB6
      clear hB6
      go_wp2_with fail
      refine HB6.out.mono ?_
      rintro e w7 ⟨rfl, hw⟩
      obtain rfl := hw.symm
      rw [beq_self_eq_true]
      go_wp2_with fail
      go_roundw
      case rel =>
        obtain ⟨hO, hD, hal', hLr', hkr'⟩ := HS'.out
        exact ⟨i + 1, falls', 0, cnt', [], ao', c', false, L4, rfl, rfl, rfl, by simp, by omega, by omega, by omega, hsa', hai', fun _ => ⟨rfl, rfl⟩, (hO.keep0 HE.out.2.1).keep0 hk6, (hD.keep0 HE.out.2.1).keep0 hk6, hal', hLr', (hkr'.trans HE.out.2.1).trans hk6⟩
      case measure => simp [intOf]; omega
end Go.Proofs.YtcebbgmjbincbaaDoor
