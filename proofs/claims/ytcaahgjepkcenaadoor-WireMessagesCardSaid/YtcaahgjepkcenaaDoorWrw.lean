/- WireRows: the walk. -/
import Derived.Test.YtcaahgjepkcenaaDoorWy
import Derived.Test.YtcaahgjepkcenaaDoorWz
import Derived.Test.YtcaahgjepkcenaaDoorWk
import Derived.Test.YtcaahgjepkcenaaDoorWh

namespace Go.Proofs.YtcaahgjepkcenaaDoor
open Go.RowKit Go.Lib

def rowsB (l : List Ro) : List UInt8 := (l.map fun r => putRow r.l).flatten
theorem rowsB_append (l m : List Ro) : rowsB (l ++ m) = rowsB l ++ rowsB m := by simp [rowsB]
theorem rowsB_one (r : Ro) : rowsB [r] = putRow r.l := by simp [rowsB]
def entsB (l : List Ent) : List UInt8 := (l.map putE).flatten
theorem entsB_append (l m : List Ent) : entsB (l ++ m) = entsB l ++ entsB m := by simp [entsB]
theorem entsB_one (r : Ent) : entsB [r] = putE r := by simp [entsB]
theorem ents_single (e : Ent) : ents [e] = e.cells.toList := by simp [ents]
theorem putRow_len (l : List Va) (h : rowOk l = true) (hi : ∀ v ∈ l, (Lit.int .i64 v.int).wf = true) : (putRow l).length ≤ 3300 ∧ 0 < (putRow l).length := by
  unfold rowOk at h
  simp only [Bool.and_eq_true, decide_eq_true_eq, List.all_eq_true] at h
  have := putVs_length h.2 hi
  unfold putRow
  rw [uvarint_small (by omega)]
  simp only [List.length_append, List.length_cons, List.length_nil]
  omega
theorem putE_len (e : Ent) (h : entOk e = true) (h1 : e.term < 18446744073709551616) (h2 : e.client < 18446744073709551616) (h3 : e.seq < 18446744073709551616) : (putE e).length ≤ 3300 ∧ 0 < (putE e).length := by
  unfold entOk at h
  simp only [Bool.and_eq_true, decide_eq_true_eq] at h
  have l1 := uvarint_length64 h1
  have l2 := uvarint_length64 h2
  have l3 := uvarint_length64 h3
  have l4 := uvarint_length64 (x := e.sql.size) (by omega)
  have l5 : e.sql.data.toList.length = e.sql.size := size_toList e.sql
  unfold putE
  split <;> simp only [List.length_append, List.length_cons, List.length_nil] <;> omega
theorem drop_rowsB {rs : List Ro} {k : Nat} {r : Ro} (h : rs[k]? = some r) : rowsB (rs.drop k) = putRow r.l ++ rowsB (rs.drop (k + 1)) := by
  obtain ⟨hk, rfl⟩ := List.getElem?_eq_some_iff.1 h
  rw [List.drop_eq_getElem_cons hk]
  rfl
theorem drop_entsB {xs : List Ent} {k : Nat} {x : Ent} (h : xs[k]? = some x) : entsB (xs.drop k) = putE x ++ entsB (xs.drop (k + 1)) := by
  obtain ⟨hk, rfl⟩ := List.getElem?_eq_some_iff.1 h
  rw [List.drop_eq_getElem_cons hk]
  rfl

theorem rb_drop {w : World} {ao : Option Addr} {c : Nat} {l : List UInt8} (h : Rb w ao c l) {k : Nat} (hk : k ≤ l.length) : Rb w (if c = k then ao else Option.map (fun x => x.add k) ao) (c - k) (l.drop k) := by
  have hD := h.drop hk
  simp only [Nat.mul_one] at hD
  have hbd : (bys l).drop k = bys (l.drop k) := by unfold bys; rw [List.map_drop]
  rw [hbd] at hD
  unfold Rb
  rw [List.length_drop]
  exact hD
theorem rb_take {w : World} {ao : Option Addr} {c : Nat} {l : List UInt8} (h : Rb w ao c l) {k : Nat} (hk : k ≤ l.length) : Rb w ao c (l.take k) := by
  have hT := h.take (k := k) (c' := c) hk (by have := h.cap; omega) (Nat.le_refl _)
  have hbt : (bys l).take (k * 1) = bys (l.take k) := by unfold bys; rw [Nat.mul_one, List.map_take]
  have hln : (l.take k).length = k := by simp; omega
  unfold Rb
  rw [hln, ← hbt]
  exact hT
theorem low_drop {w : World} {ao : Option Addr} {c n : Nat} {l : List UInt8} (h : Rb w ao c l) (hl : ∀ ad, ao = some ad → ad.block < n) (k : Nat) (hk : k ≤ c) : ∀ ad, (if c = k then ao else Option.map (fun x => x.add k) ao) = some ad → ad.block < n := by
  intro ad e
  split at e
  · exact hl ad e
  · cases ao with
    | none => simp at e
    | some a0 =>
      simp only [Option.map_some, Option.some.injEq] at e
      subst e
      rw [addr_add (h.spot (by omega) a0 rfl)]
      exact hl a0 rfl

set_option maxRecDepth 100000 in
set_option maxHeartbeats 16000000 in
theorem rows_walk (ra la : Option Addr) (rc lc : Nat) (rows : List Ro) (l : List Ent) (cut : Int) (w : World) (hg : (w).cell? ⟨0, 0, none⟩ = some (.iface 153 (.agg #[.pointer (some ⟨2, 27, none⟩)]))) (hrA : ∀ r ∈ rows, r.At w) (hR : Rr w ra rc rows) (hE : Re w la lc l)
    (hEb : ∀ x ∈ l, x.term < 18446744073709551616 ∧ x.client < 18446744073709551616 ∧ x.seq < 18446744073709551616) :
    Calls Tryd.prog 7 #[.slice ra rows.length rc, .slice la l.length lc, .int .i64 cut] w fun e w' => e = .returned (.bool true) ∧ Keeps [] w w' := by
  obtain ⟨i, z, hi, hz, hsz, hby, hzc⟩ := infoB
  obtain ⟨i1, z1, hi1, hz1, hsz1, hby1, hzc1⟩ := infoRo
  obtain ⟨i5, z5, hi5, hz5, hsz5, hby5, hzc5⟩ := infoEn
  have HRA := Lib.hid hrA
  have HEB := Lib.hid hEb
  have HG := Lib.hid hg
  clear hrA hEb
  go_enter Tryd.func7, Tryd.ntmps7
  go_wp2_with fail
  refine (wknown w hg).mono ?_
  rintro e w0 ⟨rfl, hk0⟩
  clear hg
  by_cases h12 : 12 < rows.length
  · have n1 : (12 : Int) < (rows.length : Int) := by omega
    go_wp2_with fail
    go_ret
    exact ⟨rfl, hk0⟩
  have n1 : ¬ ((12 : Int) < (rows.length : Int)) := by omega
  go_wp2_with fail
  refine (small_any la lc l 12 w0 (hE.keep0 hk0)).mono ?_
  rintro e w' ⟨rfl, hw⟩
  obtain rfl := hw.symm
  clear hw
  generalize hsm : small l 12 = sm
  cases sm with
  | false =>
    clear hsm
    go_wp2_with fail
    go_ret
    exact ⟨rfl, hk0⟩
  | true =>
  have hl12 : l.length ≤ 12 := by
    unfold small at hsm
    simp only [Bool.and_eq_true, decide_eq_true_eq] at hsm
    omega
  clear hsm
  have hr12 : rows.length ≤ 12 := by omega
  clear n1 h12
  go_wp2_with fail
  go_loopw [7, 8, 10] (fun v7 v8 v10 wr => ∃ (k : Nat) (ao bo : Option Addr) (c d : Nat) (all : List UInt8) (rs : List Ro), v7 = .slice ao all.length c ∧ v8 = .slice bo rs.length d ∧ v10 = .int .i64 (k : Int) ∧ k ≤ rows.length ∧ all = rowsB rs ∧ (∀ r ∈ rs, r ∈ rows ∧ rowOk r.l = true) ∧ rs.length ≤ k ∧ all.length ≤ 3300 * k ∧ Own wr w.heap.size ao c all ∧ wr.ownsRow w.heap.size 40 1 (.slice bo rs.length d) rs.length (rs.map Ro.cell) ∧ Keeps [] w wr) (fun _ _ v _ => 20 - (intOf v).toNat)
  case atStart => exact ⟨0, none, none, 0, 0, [], [], rfl, rfl, rfl, by omega, rfl, by simp, by simp, by simp, Own.nil _ _, World.ownsRow_nil _ _ _ _, hk0⟩
  case round =>
    obtain ⟨k, ao, bo, c, d, all, rs, rfl, rfl, rfl, hk, hall, hrs, hrk, hlen, hO, hP, hkr⟩ := hrel
    clear hk0
    by_cases hkl : k < rows.length
    · have n3 : (k : Int) < (rows.length : Int) := by omega
      have q1 : IntKind.i64.wrap ((k : Int) + 1) = k + 1 := IntWalk.i64_in _ (by omega)
      have hv := List.getElem?_eq_getElem hkl
      have hmem : rows[k] ∈ rows := List.getElem_mem hkl
      generalize rows[k] = r at *
      have hAt := (HRA.out r hmem).keep hkr
      have HALL := Lib.hid hall
      have HRS := Lib.hid hrs
      have HMEM := Lib.hid hmem
      obtain ⟨bb, o, rfl, c0⟩ := Rr.at (hR.keep0 hkr) hv
      obtain ⟨ra1, rc1, rl⟩ := r
      dsimp only [Ro.cell] at c0
      have hbl := hR.lt rfl (by rw [ne_eq, List.map_eq_nil_iff]; rintro rfl; simp at hkl)
      clear hall hrs hmem hv hkl
      go_wp2_with fail
      refine (few_any ra1 rc1 rl 70 wr hAt.1).mono ?_
      rintro e w' ⟨rfl, hw⟩
      obtain rfl := hw.symm
      clear hw
      generalize few rl 70 = fw
      cases fw with
      | false =>
        go_wp2_with fail
        go_ret
        exact ⟨rfl, hkr⟩
      | true =>
      go_wp2_with fail
      refine (putRow_any ra1 rc1 rl wr hAt.1 hAt.2).mono ?_
      rintro e w2 ⟨bo2, d2, ev, rfl, hO2, hE2, hk2⟩
      have hkr2 := hkr.trans hk2
      have hO' := hO.keep0 hk2
      have hP' := ownsRow_keep hP hk2 (by simp)
      clear hO hP hkr
      cases hok : rowOk rl with
      | false =>
        rw [hok] at hE2
        obtain ⟨t, v, rfl⟩ := hE2.bad (by decide)
        simp only [Bool.false_eq_true, if_false, List.length_nil]
        clear hO2 hE2 c0
        have HOK := Lib.hid hok
        clear hok
        go_wp2_with fail
        go_roundw
        case rel => exact ⟨k + 1, ao, bo, c, d, all, rs, rfl, rfl, by simp, by omega, HALL.out, HRS.out, by omega, by omega, hO', hP', hkr2⟩
        case measure => simp [intOf]; omega
      | true =>
        rw [hok] at hO2 hE2
        have HOK := Lib.hid hok
        obtain rfl := hE2.zero.2 rfl
        have hpl := putRow_len rl hok hAt.2
        simp only [if_true] at hO2 ⊢
        clear hE2 hok
        have hc0 := hk2.cellSome c0 (by simp)
        clear c0
        generalize hpr : putRow rl = pr at *
        have HPR := Lib.hid hpr
        clear hpr
        go_upto_region 16 with (at_builtin; refine wpList_append_by _ rfl _ _ 24 24 rfl w.heap.size 5 i z 1 1 Tryd.underlying24 hi hz hsz hby hzc ao _ c _ rfl hO' _ rfl pr.length _ (hO2.rb.src Tryd.underlying24) (by unfold maxLen; omega) (by omega) hkr2.size ?_; intro a3 c3 w3 hO3 hka hba)
        have hkr3 := hkr2.step hka (fun x hx => .inr (ownsRow_lt hO' x hx).1)
        have hP3 := ownsRow_keep hP' hka (ownsRow_apart hP' hO' (by decide))
        have hc3 := hka.cellSome hc0 (fun hx => by have h1 := (ownsRow_lt hO' _ hx).1; simp only at h1 hbl; omega)
        have hO3' := Own.of hO3 (bys_append all pr).symm
        clear hO' hP' hka hba hO2 hkr2 hO3 hc0
        have hN1 : Sl (w3.alloc (.cells #[.slice ra1 rl.length rc1] 40)) 1 (some ⟨w3.heap.size, 0, none⟩) 1 1 [.slice ra1 rl.length rc1] := Sl.of_blk (Blk.fresh _ _ _) rfl (by decide) (by simp [Value.oneCell'])
        have hP4 := ownsRow_keep hP3 ((Keeps.refl [] w3).alloc (.cells #[.slice ra1 rl.length rc1] 40)) (by simp)
        have hO4 := hO3'.keep0 ((Keeps.refl [] w3).alloc (.cells #[.slice ra1 rl.length rc1] 40))
        have hkr4 := hkr3.alloc (.cells #[.slice ra1 rl.length rc1] 40)
        clear hP3 hO3' hkr3
        go_wp2_with (at_builtin; refine wpList_append_by _ rfl _ _ 58 58 rfl w.heap.size 40 i1 z1 1 24 Tryd.underlying58 hi1 hz1 hsz1 hby1 hzc1 bo rs.length d (rs.map Ro.cell) rfl hP4 _ rfl 1 _ (hN1.src Tryd.underlying58) (by unfold maxLen; omega) (by omega) hkr4.size ?_; intro b5 d5 w5 hP5 hkb hbb)
        have hkr5 := hkr4.step hkb (fun x hx => .inr (ownsRow_lt hP4 x hx).1)
        have hO5 := hO4.keep hkb (ownsRow_apart hO4 hP4 (by decide))
        clear hP4 hO4 hkr4 hkb hbb hN1
        go_roundw
        case rel => exact ⟨k + 1, a3, b5, c3, d5, all ++ pr, rs ++ [⟨ra1, rc1, rl⟩], by simp, by simp, by simp, by omega, by rw [rowsB_append, rowsB_one, HALL.out, HPR.out], by
            intro r hr
            rw [List.mem_append, List.mem_singleton] at hr
            rcases hr with hr | rfl
            · exact HRS.out r hr
            · exact ⟨HMEM.out, HOK.out⟩, by simp; omega, by rw [List.length_append]; omega, hO5, by simpa using hP5, hkr5⟩
        case measure => simp [intOf]; omega
    · have n3 : ¬ ((k : Int) < (rows.length : Int)) := by omega
      have hall2 : all.length ≤ 39600 := by omega
      clear hlen
      have HALL := Lib.hid hall
      have HRS := Lib.hid hrs
      have hrl : rs.length ≤ 12 := by omega
      clear hall hrs hrk
      go_wp2_with fail
      clear n3 hkl
      go_loopw [7, 9, 13] (fun v7 v9 v13 wr2 => ∃ (j : Nat) (ao2 xo : Option Addr) (c2 xc : Nat) (all2 : List UInt8) (xs : List Ent), v7 = .slice ao2 all2.length c2 ∧ v9 = .slice xo xs.length xc ∧ v13 = .int .i64 (j : Int) ∧ j ≤ l.length ∧ all2 = all ++ entsB xs ∧ (∀ x ∈ xs, x ∈ l ∧ entOk x = true) ∧ xs.length ≤ j ∧ all2.length ≤ 39600 + 3300 * j ∧ Own wr2 w.heap.size ao2 c2 all2 ∧ wr2.ownsRow w.heap.size 40 1 (.slice bo rs.length d) rs.length (rs.map Ro.cell) ∧ wr2.ownsRow w.heap.size 42 5 (.slice xo xs.length xc) xs.length (ents xs) ∧ Keeps [] w wr2) (fun _ _ v _ => 20 - (intOf v).toNat)
      case atStart => exact ⟨0, ao, none, c, 0, all, [], rfl, rfl, rfl, by omega, by simp [entsB], by simp, by simp, by omega, hO, hP, World.ownsRow_nil _ _ _ _, hkr⟩
      case round =>
        obtain ⟨j, ao2, xo, c2, xc, all2, xs, rfl, rfl, rfl, hj, hall2e, hxs, hxj, hlen2, hO2, hP2, hX2, hkr2⟩ := hrel
        clear hO hP hkr
        by_cases hjl : j < l.length
        · have n3 : (j : Int) < (l.length : Int) := by omega
          have q1 : IntKind.i64.wrap ((j : Int) + 1) = j + 1 := IntWalk.i64_in _ (by omega)
          have hv := List.getElem?_eq_getElem hjl
          have hmem : l[j] ∈ l := List.getElem_mem hjl
          generalize l[j] = x at *
          have HALL2 := Lib.hid hall2e
          have HXS := Lib.hid hxs
          have HMEM := Lib.hid hmem
          obtain ⟨bb, o, rfl, c0, c1, c2', c3, c4⟩ := Re.at (hE.keep0 hkr2) hv
          have HV := Lib.hid hv
          obtain ⟨tm, kd, cl, sq, s⟩ := x
          dsimp only at c0 c1 c2' c3 c4
          obtain ⟨t1, t2, t3⟩ := HEB.out _ hmem
          dsimp only at t1 t2 t3
          clear hall2e hxs hmem hv hjl
          go_wp2_with fail
          refine (putEntry_any tm kd cl sq s wr t1 t2 t3).mono ?_
          rintro e w3 ⟨bo2, d2, ev, rfl, hOe, hE2, hk2⟩
          have hkr3 := hkr2.trans hk2
          have hO' := hO2.keep0 hk2
          have hP' := ownsRow_keep hP2 hk2 (by simp)
          have hX' := ownsRow_keep hX2 hk2 (by simp)
          clear hO2 hP2 hX2 hkr2 c0 c1 c2' c3 c4
          cases hok : entOk ⟨tm, kd, cl, sq, s⟩ with
          | false =>
            rw [hok] at hE2
            obtain ⟨t, v, rfl⟩ := (ErrP.base hE2).bad (by decide)
            simp only [Bool.false_eq_true, if_false, List.length_nil]
            clear hOe hE2 hok
            go_wp2_with fail
            go_roundw
            case rel => exact ⟨j + 1, ao2, xo, c2, xc, all2, xs, rfl, rfl, by simp, by omega, HALL2.out, HXS.out, by omega, by omega, hO', hP', hX', hkr3⟩
            case measure => simp [intOf]; omega
          | true =>
            rw [hok] at hOe hE2
            have HOK := Lib.hid hok
            obtain rfl := hE2.zero.2 rfl
            have hpl := putE_len _ hok t1 t2 t3
            simp only [if_true] at hOe ⊢
            clear hE2 hok
            generalize hpr : putE ⟨tm, kd, cl, sq, s⟩ = pr at *
            have HPR := Lib.hid hpr
            clear hpr
            go_upto_region 23 with (at_builtin; refine wpList_append_by _ rfl _ _ 24 24 rfl w.heap.size 5 i z 1 1 Tryd.underlying24 hi hz hsz hby hzc ao2 _ c2 _ rfl hO' _ rfl pr.length _ (hOe.rb.src Tryd.underlying24) (by unfold maxLen; omega) (by omega) hkr3.size ?_; intro a4 c5 w4 hO4 hka hba)
            have hkr4 := hkr3.step hka (fun x hx => .inr (ownsRow_lt hO' x hx).1)
            have hP4 := ownsRow_keep hP' hka (ownsRow_apart hP' hO' (by decide))
            have hX4 := ownsRow_keep hX' hka (ownsRow_apart hX' hO' (by decide))
            have hO4' := Own.of hO4 (bys_append all2 pr).symm
            clear hO' hP' hX' hka hba hOe hkr3 hO4
            obtain ⟨bb', o', he, c0, c1, c2', c3, c4⟩ := Re.at (hE.keep0 hkr4) HV.out
            simp only [Option.some.injEq, Addr.mk.injEq, and_true] at he
            obtain ⟨rfl, rfl⟩ := he
            dsimp only at c0 c1 c2' c3 c4
            have hN1 : Sl (w4.alloc (.cells #[.int .u64 tm, .int .i64 kd, .int .u64 cl, .int .u64 sq, .string s] 42)) 5 (some ⟨w4.heap.size, 0, none⟩) 1 1 [.int .u64 tm, .int .i64 kd, .int .u64 cl, .int .u64 sq, .string s] := Sl.of_blk (Blk.fresh _ _ _) rfl (by decide) (by simp [Value.oneCell'])
            have hkA := (Keeps.refl [] w4).alloc (.cells #[.int .u64 tm, .int .i64 kd, .int .u64 cl, .int .u64 sq, .string s] 42)
            have hP5 := ownsRow_keep hP4 hkA (by simp)
            have hX5 := ownsRow_keep hX4 hkA (by simp)
            have hO5 := hO4'.keep0 hkA
            have hkr5 := hkr4.trans hkA
            clear hP4 hX4 hO4' hkr4 hkA
            go_wp2_with (at_builtin; refine wpList_append_by _ rfl _ _ 59 59 rfl w.heap.size 42 i5 z5 5 48 Tryd.underlying59 hi5 hz5 hsz5 hby5 hzc5 xo xs.length xc (ents xs) rfl hX5 _ rfl 1 _ (hN1.src Tryd.underlying59) (by unfold maxLen; omega) (by omega) hkr5.size ?_; intro b6 d6 w6 hX6 hkb hbb)
            have hkr6 := hkr5.step hkb (fun x hx => .inr (ownsRow_lt hX5 x hx).1)
            have hO6 := hO5.keep hkb (ownsRow_apart hO5 hX5 (by decide))
            have hP6 := ownsRow_keep hP5 hkb (ownsRow_apart hP5 hX5 (by decide))
            clear hP5 hX5 hO5 hkr5 hkb hbb hN1 c0 c1 c2' c3 c4
            go_roundw
            case rel => exact ⟨j + 1, a4, b6, c5, d6, all2 ++ pr, xs ++ [⟨tm, kd, cl, sq, s⟩], by simp, by simp, by simp, by omega, by rw [entsB_append, entsB_one, HALL2.out, HPR.out, List.append_assoc], by
                intro r hr
                rw [List.mem_append, List.mem_singleton] at hr
                rcases hr with hr | rfl
                · exact HXS.out r hr
                · exact ⟨HMEM.out, HOK.out⟩, by simp; omega, by rw [List.length_append]; omega, hO6, hP6, by rw [ents_append, ents_single]; simpa using hX6, hkr6⟩
            case measure => simp [intOf]; omega
        · have n3 : ¬ ((j : Int) < (l.length : Int)) := by omega
          have hHR : Rr wr bo d rs := by
            obtain ⟨a', c', he, hS, _⟩ := own_sl hP2 (ros_one rs)
            simp only [Value.slice.injEq, true_and] at he
            obtain ⟨rfl, rfl⟩ := he
            exact hS
          have hHX : Re wr xo xc xs := by
            obtain ⟨a', c', he, hS, _⟩ := own_sl hX2 (ents_one xs)
            simp only [Value.slice.injEq, true_and] at he
            obtain ⟨rfl, rfl⟩ := he
            exact hS
          have hRb := hO2.rb
          have hlow : ∀ ad, ao2 = some ad → ad.block < wr.heap.size := fun ad e => (ownsRow_lt hO2 ad.block (by rw [e]; simp)).2
          have hal : all2 = rowsB (rs.drop 0) ++ entsB xs := by rw [hall2e, HALL.out]; rfl
          have hal2 : all2.length ≤ 100000 := by omega
          have HAL2 := Lib.hid hal
          have HXS := Lib.hid hxs
          have hxl : xs.length ≤ 12 := by omega
          clear hal hxs hO2 hP2 hX2 hlen2 hall2e hxj HALL hall2
          go_wp2_with fail
          clear n3 hjl
          go_loopw [7, 16] (fun v7 v16 wr3 => ∃ (k3 : Nat) (ao3 : Option Addr) (c3 : Nat) (rest : List UInt8), v7 = .slice ao3 rest.length c3 ∧ v16 = .int .i64 (k3 : Int) ∧ k3 ≤ rs.length ∧ rest = rowsB (rs.drop k3) ++ entsB xs ∧ rest.length ≤ 100000 ∧ Rb wr3 ao3 c3 rest ∧ (∀ ad, ao3 = some ad → ad.block < wr3.heap.size) ∧ Keeps [] wr wr3) (fun _ v _ => 20 - (intOf v).toNat)
          case atStart => exact ⟨0, ao2, c2, all2, rfl, rfl, by omega, HAL2.out, hal2, hRb, hlow, Keeps.refl _ _⟩
          case round =>
            obtain ⟨k3, ao3, c3, rest, rfl, rfl, hk3, hrest, hrl3, hRb3, hlow3, hkr3⟩ := hrel
            clear HAL2 hRb hlow hal2
            by_cases hkl3 : k3 < rs.length
            · have n3 : (k3 : Int) < (rs.length : Int) := by omega
              have q1 : IntKind.i64.wrap ((k3 : Int) + 1) = k3 + 1 := IntWalk.i64_in _ (by omega)
              have hv := List.getElem?_eq_getElem hkl3
              have hmem : rs[k3] ∈ rs := List.getElem_mem hkl3
              generalize rs[k3] = r at *
              obtain ⟨hm1, hok⟩ := HRS.out r hmem
              have hAt := (HRA.out r hm1).keep (hkr2.trans hkr3)
              have hrest2 := hrest
              rw [drop_rowsB hv, List.append_assoc] at hrest2
              obtain ⟨bb, o, rfl, c0⟩ := Rr.at (hHR.keep0 hkr3) hv
              obtain ⟨ra1, rc1, rl⟩ := r
              dsimp only [Ro.cell] at c0
              dsimp only at hrest2 hok
              have hp := rowP_put rl (rowsB (rs.drop (k3 + 1)) ++ entsB xs) hok hAt.2
              rw [← hrest2] at hp
              have HCUT := Lib.hid (show ∀ cn, cn < (putRow rl).length → (rowP (rest.take cn)).2.2 = 22 from fun cn hc => by rw [hrest2]; exact rowP_part rl cn _ hok hAt.2 hc)
              have HNEXT := Lib.hid (show rest.drop (putRow rl).length = rowsB (rs.drop (k3 + 1)) ++ entsB xs by rw [hrest2, List.drop_left])
              have hnl : (putRow rl).length ≤ rest.length := by rw [hrest2]; simp
              have hnp := (putRow_len rl hok hAt.2).2
              generalize (putRow rl).length = n at *
              have U := row_any ao3 c3 rest wr hRb3 hlow3 (by omega)
              rw [hp] at U
              dsimp only at U
              clear hrest hrest2 hp hok hm1 hmem hv hkl3
              go_wp2_with fail
              refine U.mono ?_
              rintro e w4 ⟨vo, vc, ev, rfl, hV, hE4, hk4⟩
              obtain rfl := hE4.zero.2 rfl
              have hkr4 := hkr3.trans hk4
              have hRb4 := hRb3.keep0 hk4
              have hlow4 : ∀ ad, ao3 = some ad → ad.block < w4.heap.size := fun ad e => Nat.lt_of_lt_of_le (hlow3 ad e) hk4.size
              have c0' := hk4.cellSome c0 (by simp)
              have hAt4 := hAt.keep hk4
              clear U hRb3 hlow3 hkr3 hk4 c0 hAt hE4
              go_wp2_with fail
              refine (values_eq vo ra1 vc rc1 rl w4 hV hAt4.1).mono ?_
              rintro e w5 ⟨rfl, hk5⟩
              have hkr5 := hkr4.trans hk5
              have hRb5 := hRb4.keep0 hk5
              have hlow5 : ∀ ad, ao3 = some ad → ad.block < w5.heap.size := fun ad e => Nat.lt_of_lt_of_le (hlow4 ad e) hk5.size
              clear hV hAt4 c0' hRb4 hlow4 hkr4 hk5
              go_upto_region 30 with (fail)
              obtain ⟨q, hq⟩ : ∃ q : Bool, q = decide (0 ≤ cut ∧ cut < (n : Int)) := ⟨_, rfl⟩
              have HQ := Lib.hid hq
              clear hq
              go_cut [127] (fun v wx => v = .bool q ∧ wx = w5)
              case first =>
                by_cases h0 : 0 ≤ cut
                · by_cases h1 : cut < (n : Int)
                  · have e1 := Lib.hid (show q = true by rw [HQ.out]; simp [h0, h1])
                    clear HQ
                    go_wp2_with fail
                    go_meet
                    exact ⟨by rw [e1.out], rfl⟩
                  · have e1 := Lib.hid (show q = false by rw [HQ.out]; simp [h1])
                    clear HQ
                    go_wp2_with fail
                    go_meet
                    exact ⟨by rw [e1.out], rfl⟩
                · have e1 := Lib.hid (show q = false by rw [HQ.out]; simp [h0])
                  clear HQ
                  go_wp2_with fail
                  go_meet
                  exact ⟨by rw [e1.out], rfl⟩
              case rest =>
              obtain ⟨rfl, rfl⟩ := hcut
              go_upto_if 127 with (fail)
              go_cut [] (fun wx => Keeps [] wc wx)
              case first =>
                cases q with
                | false =>
                  clear HQ
                  go_wp2_with fail
                  go_meet
                  exact Keeps.refl _ _
                | true =>
                  obtain ⟨h0, h1⟩ := of_decide_eq_true HQ.out.symm
                  clear HQ
                  obtain ⟨cn, rfl⟩ := Int.eq_ofNat_of_zero_le h0
                  have hcn : cn < n := by omega
                  have hcl : cn ≤ c3 := by have := hRb5.cap; omega
                  have hcr : cn ≤ rest.length := by omega
                  have hln : (rest.take cn).length = cn := by simp; omega
                  have U2 := row_any ao3 c3 (rest.take cn) wc (rb_take hRb5 hcr) hlow5 (by omega)
                  rw [hln] at U2
                  have h22 := HCUT.out cn hcn
                  generalize rowP (rest.take cn) = y at *
                  obtain ⟨y1, y2, y3⟩ := y
                  dsimp only at h22 U2
                  subst h22
                  clear hln
                  go_wp2_with fail
                  refine U2.mono ?_
                  rintro e w6 ⟨vo2, vc2, ev2, rfl, hV2, hE6, hk6⟩
                  have hg6 := ((hkr2.trans hkr5).trans hk6).cellSome HG.out (by simp)
                  clear U2 hV2
                  go_wp2_with fail
                  refine (class_any ev2 22 w6 hg6 hE6.is).mono ?_
                  rintro e w7 ⟨rfl, hk7⟩
                  go_wp2_with fail
                  go_meet
                  exact hk6.trans hk7
              case rest =>
              have hRb6 := hRb5.keep0 hcut
              have hlow6 : ∀ ad, ao3 = some ad → ad.block < wc.heap.size := fun ad e => Nat.lt_of_lt_of_le (hlow5 ad e) hcut.size
              have hkr6 := hkr5.trans hcut
              clear hRb5 hlow5 hkr5 hcut HQ
              have hnc : n ≤ c3 := by have := hRb6.cap; omega
              go_wp2_with fail
              go_roundw
              case rel => exact ⟨k3 + 1, _, c3 - n, rest.drop n, by rw [List.length_drop], by simp, by omega, HNEXT.out, by simp; omega, rb_drop hRb6 hnl, low_drop hRb6 hlow6 n hnc, hkr6⟩
              case measure => simp [intOf]; omega
            · have n3 : ¬ ((k3 : Int) < (rs.length : Int)) := by omega
              have hre : rest = entsB (xs.drop 0) := by
                have : k3 = rs.length := by omega
                rw [hrest, this, List.drop_length]
                rfl
              have HRE := Lib.hid hre
              have hHX3 := hHX.keep0 hkr3
              have hkT := hkr2.trans hkr3
              clear hre hHX hkr2 hkr3 hHR hrest HRS
              go_wp2_with fail
              clear n3 hkl3
              go_loopw [7, 23] (fun v7 v23 wr4 => ∃ (k4 : Nat) (ao4 : Option Addr) (c4 : Nat) (rest : List UInt8), v7 = .slice ao4 rest.length c4 ∧ v23 = .int .i64 (k4 : Int) ∧ k4 ≤ xs.length ∧ rest = entsB (xs.drop k4) ∧ rest.length ≤ 100000 ∧ Rb wr4 ao4 c4 rest ∧ (∀ ad, ao4 = some ad → ad.block < wr4.heap.size) ∧ Keeps [] wr wr4) (fun _ v _ => 20 - (intOf v).toNat)
              case atStart => exact ⟨0, ao3, c3, rest, rfl, rfl, by omega, HRE.out, hrl3, hRb3, hlow3, Keeps.refl _ _⟩
              case round =>
                obtain ⟨k4, ao4, c4, rest, rfl, rfl, hk4, hrest, hrl4, hRb4, hlow4, hkr4⟩ := hrel
                clear HRE hRb3 hlow3 hrl3
                by_cases hkl4 : k4 < xs.length
                · have n3 : (k4 : Int) < (xs.length : Int) := by omega
                  have q1 : IntKind.i64.wrap ((k4 : Int) + 1) = k4 + 1 := IntWalk.i64_in _ (by omega)
                  have hv := List.getElem?_eq_getElem hkl4
                  have hmem : xs[k4] ∈ xs := List.getElem_mem hkl4
                  generalize xs[k4] = x at *
                  obtain ⟨hm1, hok⟩ := HXS.out x hmem
                  obtain ⟨t1, t2, t3⟩ := HEB.out _ hm1
                  have hrest2 := hrest
                  rw [drop_entsB hv] at hrest2
                  have hp := entP_put x (entsB (xs.drop (k4 + 1))) hok t1 t2 t3
                  rw [← hrest2] at hp
                  have HCUT := Lib.hid (show ∀ cn, cn < (putE x).length → (entP (rest.take cn)).2.2 = 22 from fun cn hc => by rw [hrest2]; exact entP_part x cn _ hok t1 t2 t3 hc)
                  have HNEXT := Lib.hid (show rest.drop (putE x).length = entsB (xs.drop (k4 + 1)) by rw [hrest2, List.drop_left])
                  have hnl : (putE x).length ≤ rest.length := by rw [hrest2]; simp
                  have hnp := (putE_len x hok t1 t2 t3).2
                  have HV := Lib.hid hv
                  generalize (putE x).length = n at *
                  have U := entry_any ao4 c4 rest wr hRb4 hlow4 (by omega) x n 0 hp
                  clear hrest hrest2 hp hok hm1 hmem hv hkl4 t1 t2 t3
                  obtain ⟨tm, kd, cl, sq, s⟩ := x
                  go_wp2_with fail
                  refine U.mono ?_
                  rintro e w4 ⟨ev, rfl, hE4, hkw⟩
                  obtain rfl := hE4.zero.2 rfl
                  have hkr5 := hkr4.trans hkw
                  have hRb5 := hRb4.keep0 hkw
                  have hlow5 : ∀ ad, ao4 = some ad → ad.block < w4.heap.size := fun ad e => Nat.lt_of_lt_of_le (hlow4 ad e) hkw.size
                  clear U hRb4 hlow4 hkr4 hkw hE4
                  go_upto_region 39 with (fail)
                  have hV := Blk.fresh w4 42 #[.int .u64 tm, .int .i64 kd, .int .u64 cl, .int .u64 sq, .string s]
                  have hkA := (Keeps.refl [] w4).alloc (.cells #[.int .u64 tm, .int .i64 kd, .int .u64 cl, .int .u64 sq, .string s] 42)
                  have hkr6 := hkr5.trans hkA
                  have hRb6 := hRb5.keep0 hkA
                  have hlow6 : ∀ ad, ao4 = some ad → ad.block < (w4.alloc (.cells #[.int .u64 tm, .int .i64 kd, .int .u64 cl, .int .u64 sq, .string s] 42)).heap.size := fun ad e => Nat.lt_of_lt_of_le (hlow5 ad e) hkA.size
                  clear hkr5 hRb5 hlow5 hkA
                  dsimp only [Ent.cells]
                  generalize World.alloc w4 _ = w5 at *
                  generalize w4.heap.size = vb at *
                  obtain ⟨bb, o, rfl, c0, c1, c2', c3', c4'⟩ := Re.at (hHX3.keep0 hkr6) HV.out
                  dsimp only at c0 c1 c2' c3' c4'
                  have hcV := hV.cell
                  have hlV := hV.lt
                  have n5 : (0 : Int) ≤ (k4 : Int) := by omega
                  go_wp2_with fail
                  go_quiet (fail)
                  have hkr7 := hkr6.drewN nq
                  have hRb7 := hRb6.keep0 ((Keeps.refl [] w5).drewN nq)
                  have hlow7 : ∀ ad, ao4 = some ad → ad.block < (w5.drewN nq).heap.size := fun ad e => Nat.lt_of_lt_of_le (hlow6 ad e) ((Keeps.refl [] w5).drewN nq).size
                  clear hkr6 hRb6 hlow6 hV hcV hlV c0 c1 c2' c3' c4'
                  generalize World.drewN w5 nq = w6 at *
                  go_upto_region 41 with (fail)
                  obtain ⟨q, hq⟩ : ∃ q : Bool, q = decide (0 ≤ cut ∧ cut < (n : Int)) := ⟨_, rfl⟩
                  have HQ := Lib.hid hq
                  clear hq
                  go_cut [170] (fun v wx => v = .bool q ∧ wx = w6)
                  case first =>
                    by_cases h0 : 0 ≤ cut
                    · by_cases h1 : cut < (n : Int)
                      · have e1 := Lib.hid (show q = true by rw [HQ.out]; simp [h0, h1])
                        clear HQ
                        go_wp2_with fail
                        go_meet
                        exact ⟨by rw [e1.out], rfl⟩
                      · have e1 := Lib.hid (show q = false by rw [HQ.out]; simp [h1])
                        clear HQ
                        go_wp2_with fail
                        go_meet
                        exact ⟨by rw [e1.out], rfl⟩
                    · have e1 := Lib.hid (show q = false by rw [HQ.out]; simp [h0])
                      clear HQ
                      go_wp2_with fail
                      go_meet
                      exact ⟨by rw [e1.out], rfl⟩
                  case rest =>
                  obtain ⟨rfl, rfl⟩ := hcut
                  go_upto_if 170 with (fail)
                  go_cut [] (fun wx => Keeps [] wc wx)
                  case first =>
                    cases q with
                    | false =>
                      clear HQ
                      go_wp2_with fail
                      go_meet
                      exact Keeps.refl _ _
                    | true =>
                      obtain ⟨h0, h1⟩ := of_decide_eq_true HQ.out.symm
                      clear HQ
                      obtain ⟨cn, rfl⟩ := Int.eq_ofNat_of_zero_le h0
                      have hcn : cn < n := by omega
                      have hcl : cn ≤ c4 := by have := hRb7.cap; omega
                      have hcr : cn ≤ rest.length := by omega
                      have hln : (rest.take cn).length = cn := by simp; omega
                      have h22 := HCUT.out cn hcn
                      obtain ⟨y, hy⟩ : ∃ y, entP (rest.take cn) = y := ⟨_, rfl⟩
                      rw [hy] at h22
                      obtain ⟨y1, y2, y3⟩ := y
                      dsimp only at h22
                      subst h22
                      have U2 := entry_any ao4 c4 (rest.take cn) wc (rb_take hRb7 hcr) hlow7 (by omega) y1 y2 22 hy
                      rw [hln] at U2
                      clear hln hy
                      obtain ⟨tm2, kd2, cl2, sq2, s2⟩ := y1
                      go_wp2_with fail
                      refine U2.mono ?_
                      rintro e w7 ⟨ev2, rfl, hE6, hk6⟩
                      have hg6 := ((hkT.trans hkr7).trans hk6).cellSome HG.out (by simp)
                      clear U2
                      go_upto_region 43 with (fail)
                      have hkA := (Keeps.refl [] w7).alloc (.cells #[.int .u64 tm2, .int .i64 kd2, .int .u64 cl2, .int .u64 sq2, .string s2] 42)
                      have hg8 := hkA.cellSome hg6 (by simp)
                      have hE8 := hE6.keep hkA
                      have hk8 := hk6.trans hkA
                      clear hg6 hE6 hk6 hkA
                      dsimp only [Ent.cells]
                      generalize World.alloc w7 _ = w8 at *
                      generalize w7.heap.size = vb2 at *
                      go_wp2_with fail
                      refine (class_any ev2 22 w8 hg8 hE8.is).mono ?_
                      rintro e w9 ⟨rfl, hk9⟩
                      go_wp2_with fail
                      go_meet
                      exact hk8.trans hk9
                  case rest =>
                  have hRb8 := hRb7.keep0 hcut
                  have hlow8 : ∀ ad, ao4 = some ad → ad.block < wc.heap.size := fun ad e => Nat.lt_of_lt_of_le (hlow7 ad e) hcut.size
                  have hkr8 := hkr7.trans hcut
                  clear hRb7 hlow7 hkr7 hcut HQ
                  have hnc : n ≤ c4 := by have := hRb8.cap; omega
                  go_wp2_with fail
                  go_roundw
                  case rel => exact ⟨k4 + 1, _, c4 - n, rest.drop n, by rw [List.length_drop], by simp, by omega, HNEXT.out, by simp; omega, rb_drop hRb8 hnl, low_drop hRb8 hlow8 n hnc, hkr8⟩
                  case measure => simp [intOf]; omega
                · have n3 : ¬ ((k4 : Int) < (xs.length : Int)) := by omega
                  have hre : rest = [] := by
                    have : k4 = xs.length := by omega
                    rw [hrest, this, List.drop_length]
                    rfl
                  subst hre
                  clear hrest
                  go_wp2_with fail
                  go_ret
                  exact ⟨rfl, hkT.trans hkr4⟩
end Go.Proofs.YtcaahgjepkcenaaDoor
