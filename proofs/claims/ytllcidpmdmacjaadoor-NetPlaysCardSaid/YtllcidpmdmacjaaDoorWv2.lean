/- A reader of bytes: value. -/
import Derived.Test.YtllcidpmdmacjaaDoorWv
import Derived.Deep.DeepCutAuto
import Derived.Deep.CutBlock

namespace Go.Proofs.YtllcidpmdmacjaaDoor
open Go.RowKit Go.Lib

theorem Tryd.sizeV : (Tryd.prog.info? 116).map (·.size) = some 3 := by kernel_rfl

/-- a value -/
structure Va where
  kind : Int
  int : Int
  text : ByteArray
abbrev Va.cells (v : Va) : Array Value := #[.int .i64 v.kind, .int .i64 v.int, .string v.text]

def St.value (s : St) : Va × St :=
  if (s.small 3).1 = 1 then (⟨1, ((s.small 3).2.small 1).1, ⟨#[]⟩⟩, ((s.small 3).2.small 1).2) else
  if (s.small 3).1 = 2 then (⟨2, (s.small 3).2.int.1, ⟨#[]⟩⟩, (s.small 3).2.int.2) else
  if (s.small 3).1 = 3 then
    let t := (s.small 3).2.small 40
    let u := if t.2.f = 0 ∧ 0 ∈ t.2.l.take t.1 then t.2.fail 20 else t.2
    (⟨3, 0, ⟨(u.bytes t.1).1.toArray⟩⟩, (u.bytes t.1).2)
  else (⟨(s.small 3).1, 0, ⟨#[]⟩⟩, (s.small 3).2)

theorem RdAt.set1 {N : Nat} {w : World} {r v : Nat} {s : St} {t : TypeId} {cs : Array Value} (h : RdAt N w r s) (hV : Blk w v t cs) (hr : r ≠ v) (hv : N ≤ v) (ht : 59 ≠ t) (i : Nat) (x : Value) : RdAt N (w.setCell ⟨v, i, none⟩ x) r s :=
  h.keepV hV ((Keeps.refl [v] w).set (by simp) x) hr hv ht

theorem val_end {N : Nat} {w0 w : World} {r xb : Nat} {s : St} {x0 x1 x2 : Value} (h : RdAt N w r s) (hX : Blk w xb 116 #[x0, x1, x2]) (hr : r ≠ xb) (hN : N ≤ xb) (hk : Keeps [r] w0 w) (hx : w0.heap.size ≤ xb) (a b c : Value) :
    Blk (((w.setCell ⟨xb, 0, none⟩ a).setCell ⟨xb, 1, none⟩ b).setCell ⟨xb, 2, none⟩ c) xb 116 #[a, b, c] ∧ RdAt N (((w.setCell ⟨xb, 0, none⟩ a).setCell ⟨xb, 1, none⟩ b).setCell ⟨xb, 2, none⟩ c) r s ∧ Keeps [r] w0 (((w.setCell ⟨xb, 0, none⟩ a).setCell ⟨xb, 1, none⟩ b).setCell ⟨xb, 2, none⟩ c) :=
  ⟨(((hX.put 0 a).put 1 b).put 2 c).eq (by simp),
   ((h.set1 hX hr hN (by decide) 0 a).set1 (hX.put 0 a) hr hN (by decide) 1 b).set1 ((hX.put 0 a).put 1 b) hr hN (by decide) 2 c,
   ((hk.set (p := ⟨xb, 0, none⟩) (.inr hx) a).set (p := ⟨xb, 1, none⟩) (.inr hx) b).set (p := ⟨xb, 2, none⟩) (.inr hx) c⟩

set_option maxRecDepth 100000 in
set_option maxHeartbeats 4000000 in
theorem rd_value {N : Nat} (r : Nat) (s : St) (w : World) (h : RdAt N w r s) (hN : N ≤ w.heap.size) :
    Calls Tryd.prog 56 #[.pointer (some ⟨r, 0, none⟩)] w fun e w' => e = .returned (.agg s.value.1.cells) ∧ RdAt N w' r s.value.2 ∧ Keeps [r] w w' := by
  have hrl : r < w.heap.size := by obtain ⟨ao, c, ev, hB, _⟩ := h; exact hB.lt
  have hX0 := Blk.fresh w 116 #[.int .i64 0, .int .i64 0, .string ⟨#[]⟩]
  have hk0 := (Keeps.refl [r] w).alloc (.cells #[.int .i64 0, .int .i64 0, .string ⟨#[]⟩] 116)
  have h0 := h.keep ((Keeps.refl [] w).alloc (.cells #[.int .i64 0, .int .i64 0, .string ⟨#[]⟩] 116))
  have hxr : w.heap.size ≠ r := by omega
  generalize hsv : s.value = sv at *
  unfold St.value at hsv
  go_enter Tryd.func56, Tryd.ntmps56
  go_upto_region 1 with (fail)
  generalize World.alloc w _ = w1 at *
  generalize hxe : w.heap.size = xb at *
  go_wp2_with fail
  refine (rd_small r s 3 w1 h0).mono ?_
  rintro e w2 ⟨rfl, h2, hk2⟩
  have hX2 := hX0.keep hk2 (by simpa using hxr)
  have hk02 := hk0.trans hk2
  clear h0 hX0 hk0 hk2 h
  generalize (s.small 3).1 = k at *
  generalize (s.small 3).2 = s2 at *
  go_upto_region 2 with (fail)
  have hV3 := Blk.fresh w2 116 #[.int .i64 k, .int .i64 0, .string ⟨#[]⟩]
  have hk3 := hk02.alloc (.cells #[.int .i64 k, .int .i64 0, .string ⟨#[]⟩] 116)
  have h3 := h2.keep ((Keeps.refl [] w2).alloc (.cells #[.int .i64 k, .int .i64 0, .string ⟨#[]⟩] 116))
  have hX3 := hX2.alloc (.cells #[.int .i64 k, .int .i64 0, .string ⟨#[]⟩] 116)
  have hvr : w2.heap.size ≠ r := by have := hk02.size; omega
  have hvx : w2.heap.size ≠ xb := by have := hX2.lt; omega
  have hvN : N ≤ w2.heap.size := by have := hk02.size; omega
  have hvw : w.heap.size ≤ w2.heap.size := hk02.size
  generalize World.alloc w2 _ = w3 at *
  generalize w2.heap.size = vb at *
  clear h2 hX2 hk02
  have hcV := hV3.cell
  have hlV := hV3.lt
  by_cases k1 : k = 1
  · rw [if_pos k1] at hsv
    subst k1
    generalize hi : (s2.small 1).1 = i at *
    generalize ht : (s2.small 1).2 = t at *
    go_wp2_with fail
    have P := rd_small r s2 1 w3 h3
    rw [hi, ht] at P
    refine P.mono ?_
    rintro e w4 ⟨rfl, h4, hk4⟩
    have hX4 := hX3.keep hk4 (by simpa using fun e => hxr e)
    have hV4 := hV3.keep hk4 (by simpa using hvr)
    have hk04 := hk3.trans hk4
    clear hX3 hV3 hk3 hk4 hcV hlV P h3
    have hcV := hV4.cell
    have hlV := hV4.lt
    have hfV := hV4.free
    have hcX := hX4.cell
    have hlX := hX4.lt
    have hfX := hX4.free
    go_wp2_with fail
    have E := val_end (h4.set1 hV4 (fun e => hvr e.symm) hvN (by decide) 1 (.int .i64 i)) (hX4.other (p := ⟨vb, 1, none⟩) (fun e => hvx e.symm) (.int .i64 i)) (fun e => hxr e.symm) (by omega) (hk04.set (p := ⟨vb, 1, none⟩) (.inr hvw) (.int .i64 i)) (by omega) (.int .i64 1) (.int .i64 i) (.string ⟨#[]⟩)
    exact bodyPost_ret (results_c rfl rfl E.1 Tryd.underlying116 rfl Tryd.sizeV) rfl ⟨by rw [← hsv], by rw [← hsv]; exact E.2.1, E.2.2⟩
  by_cases k2 : k = 2
  · rw [if_neg k1, if_pos k2] at hsv
    subst k2
    generalize hi : s2.int.1 = i at *
    generalize ht : s2.int.2 = t at *
    go_wp2_with fail
    have P := rd_int r s2 w3 h3
    rw [hi, ht] at P
    refine P.mono ?_
    rintro e w4 ⟨rfl, h4, hk4⟩
    have hX4 := hX3.keep hk4 (by simpa using fun e => hxr e)
    have hV4 := hV3.keep hk4 (by simpa using hvr)
    have hk04 := hk3.trans hk4
    clear hX3 hV3 hk3 hk4 hcV hlV P h3
    have hcV := hV4.cell
    have hlV := hV4.lt
    have hfV := hV4.free
    have hcX := hX4.cell
    have hlX := hX4.lt
    have hfX := hX4.free
    go_wp2_with fail
    have E := val_end (h4.set1 hV4 (fun e => hvr e.symm) hvN (by decide) 1 (.int .i64 i)) (hX4.other (p := ⟨vb, 1, none⟩) (fun e => hvx e.symm) (.int .i64 i)) (fun e => hxr e.symm) (by omega) (hk04.set (p := ⟨vb, 1, none⟩) (.inr hvw) (.int .i64 i)) (by omega) (.int .i64 2) (.int .i64 i) (.string ⟨#[]⟩)
    exact bodyPost_ret (results_c rfl rfl E.1 Tryd.underlying116 rfl Tryd.sizeV) rfl ⟨by rw [← hsv], by rw [← hsv]; exact E.2.1, E.2.2⟩
  by_cases k3 : k = 3
  · rw [if_neg k1, if_neg k2, if_pos k3] at hsv
    subst k3
    try simp only at hsv
    generalize hi : (s2.small 40).1 = n at *
    generalize ht : (s2.small 40).2 = t at *
    go_wp2_with fail
    have P := rd_small r s2 40 w3 h3
    rw [hi, ht] at P
    refine P.mono ?_
    rintro e w4 ⟨rfl, h4, hk4⟩
    have hX4 := hX3.keep hk4 (by simpa using fun e => hxr e)
    have hV4 := hV3.keep hk4 (by simpa using hvr)
    have hk04 := hk3.trans hk4
    clear hX3 hV3 hk3 hk4 hcV hlV P h3
    go_upto_region 9 with (fail)
    obtain ⟨q, hq⟩ : ∃ q : Bool, q = decide (t.f = 0 ∧ 0 ∈ t.l.take n) := ⟨_, rfl⟩
    go_cut [43] (fun v wx => v = .bool q ∧ RdAt N wx r t ∧ Blk wx xb 116 #[.int .i64 0, .int .i64 0, .string ⟨#[]⟩] ∧ Blk wx vb 116 #[.int .i64 3, .int .i64 0, .string ⟨#[]⟩] ∧ Keeps [r] w wx)
    case first =>
      obtain ⟨ao, c, hS, hn, hm, hc⟩ := h4.open
      have hVe : Blk w4 vb 116 #[.int .i64 3, .int .i64 0, .string ⟨#[]⟩] := hV4
      rcases hc with ⟨hf, hB⟩ | ⟨hf, g, p, hB, _⟩
      · have hcc := hB.cell
        have hll := hB.lt
        have hd : q = decide (0 ∈ t.l.take n) := by rw [hq]; simp [hf]
        have HD := Lib.hid hd
        clear hf hd hsv hm hq
        have hcap := hS.cap
        refine wp_region_still_tail 17 (by kernel_rfl) (by kernel_rfl) ?_
        change wpStill _ _ (World.drew _) _ _ _
        simp only [List.take_succ_cons, List.take_zero, List.drop_succ_cons, List.drop_zero]
        by_cases hnl : n ≤ t.l.length
        · have n1 : ¬ (t.l.length < n) := by omega
          have n2 : ¬ ((t.l.length : Int) < (n : Int)) := by omega
          have n3 : n ≤ c := by omega
          have hT := hS.take (k := n) (c' := c) hnl n3 (Nat.le_refl _)
          have hbt : (bys t.l).take (n * 1) = bys (t.l.take n) := by unfold bys; rw [Nat.mul_one, List.map_take]
          have hln : (t.l.take n).length = n := by simp; omega
          have hC : Calls Tryd.prog 59 #[.slice ao n c, .int .u8 0] w4.drew fun e w' => e = .returned (.bool (decide ((0 : UInt8) ∈ t.l.take n))) ∧ w' = w4.drew := by
            have hR : Rb w4.drew ao c (t.l.take n) := by
              unfold Rb
              rw [hln, ← hbt]
              exact hT.keep0 (Keeps.refl [] w4).drew
            have := contains_any ao c (t.l.take n) 0 w4.drew hR
            rw [hln] at this
            exact this
          clear hT hbt hln
          repeat still_step
          refine wpStill_nil ?_
          change wpList _ _ _ _ _ (World.drew _)
          go_wp2_with fail
          refine hC.mono ?_
          rintro e w' ⟨rfl, rfl⟩
          clear hC
          go_wp2_with fail
          go_meet
          exact ⟨by rw [HD.out], h4.keep (Keeps.refl [] w4).drew, hX4.drew, hVe.drew, hk04.drew⟩
        · have n1 : t.l.length < n := by omega
          have n2 : (t.l.length : Int) < (n : Int) := by omega
          have hC := contains_any ao c t.l 0 w4.drew (hS.keep0 (Keeps.refl [] w4).drew)
          have htk : t.l.take n = t.l := List.take_of_length_le (by omega)
          have HT := Lib.hid htk
          clear htk
          repeat still_step
          refine wpStill_nil ?_
          change wpList _ _ _ _ _ (World.drew _)
          go_wp2_with fail
          refine hC.mono ?_
          rintro e w' ⟨rfl, rfl⟩
          clear hC
          go_wp2_with fail
          go_meet
          exact ⟨by rw [HD.out, HT.out], h4.keep (Keeps.refl [] w4).drew, hX4.drew, hVe.drew, hk04.drew⟩
      · have hcc := hB.cell
        have hll := hB.lt
        have hd : q = false := by rw [hq]; simp [hf]
        have HD := Lib.hid hd
        clear hf hd hsv hm hq
        go_quiet (fail)
        go_wp2_with fail
        go_meet
        exact ⟨by rw [HD.out], h4.keep ((Keeps.refl [] w4).drewN nq), hX4.drewN nq, hVe.drewN nq, hk04.drewN nq⟩
    case rest =>
      obtain ⟨rfl, h5, hX5, hV5, hk5⟩ := hcut
      clear h4 hX4 hV4 hk04
      obtain ⟨u, hu⟩ : ∃ u, u = (if t.f = 0 ∧ 0 ∈ t.l.take n then t.fail 20 else t) := ⟨_, rfl⟩
      rw [← hu] at hsv
      go_upto_if 43 with (fail)
      go_cut [] (fun wx => RdAt N wx r u ∧ Blk wx xb 116 #[.int .i64 0, .int .i64 0, .string ⟨#[]⟩] ∧ Blk wx vb 116 #[.int .i64 3, .int .i64 0, .string ⟨#[]⟩] ∧ Keeps [r] w wx)
      case first =>
        cases q with
        | true =>
          have hh := of_decide_eq_true hq.symm
          rw [if_pos hh] at hu
          subst hu
          clear hh hq hsv
          go_wp2_with fail
          refine (wform _ _).mono ?_
          rintro e w6 ⟨g, rfl, hE, hk6⟩
          go_wp2_with fail
          refine (rd_fails r t _ 20 w6 (h5.keep hk6) (ErrF.of hE (by simp)) (by decide)).mono ?_
          rintro e w7 ⟨rfl, h7, hk7⟩
          go_wp2_with fail
          go_meet
          exact ⟨h7, (hX5.keep hk6 (by simp)).keep hk7 (by simpa using fun e => hxr e), (hV5.keep hk6 (by simp)).keep hk7 (by simpa using hvr), (hk5.trans hk6.of_nil).trans hk7⟩
        | false =>
          have hh := of_decide_eq_false hq.symm
          rw [if_neg hh] at hu
          subst hu
          clear hh hq hsv
          go_wp2_with fail
          go_meet
          exact ⟨h5, hX5, hV5, hk5⟩
      case rest =>
        obtain ⟨h6, hX6, hV6, hk6⟩ := hcut
        clear h5 hX5 hV5 hk5 hq
        clear hu
        have P := rd_bytes r u n _ h6
        generalize (u.bytes n).1 = x at *
        generalize (u.bytes n).2 = y at *
        go_wp2_with fail
        refine P.mono ?_
        rintro e w7 ⟨ao, c, rfl, hR7, h7, hk7⟩
        have hX7 := hX6.keep hk7 (by simpa using fun e => hxr e)
        have hV7 := hV6.keep hk7 (by simpa using hvr)
        have hk07 := hk6.trans hk7
        clear hX6 hV6 hk6 hk7 P h6
        have hcV := hV7.cell
        have hlV := hV7.lt
        have hfV := hV7.free
        have hcX := hX7.cell
        have hlX := hX7.lt
        have hfX := hX7.free
        have r1 := run_text hR7 34 9 Tryd.underlying34 Tryd.underlying9
        go_wp2_with fail
        have E := val_end (h7.set1 hV7 (fun e => hvr e.symm) hvN (by decide) 2 (.string ⟨x.toArray⟩)) (hX7.other (p := ⟨vb, 2, none⟩) (fun e => hvx e.symm) (.string ⟨x.toArray⟩)) (fun e => hxr e.symm) (by omega) (hk07.set (p := ⟨vb, 2, none⟩) (.inr hvw) (.string ⟨x.toArray⟩)) (by omega) (.int .i64 3) (.int .i64 0) (.string ⟨x.toArray⟩)
        exact bodyPost_ret (results_c rfl rfl E.1 Tryd.underlying116 rfl Tryd.sizeV) rfl ⟨by rw [← hsv], by rw [← hsv]; exact E.2.1, E.2.2⟩
  · rw [if_neg k1, if_neg k2, if_neg k3] at hsv
    have n1 : ((k : Int) == 1) = false := by simp; omega
    have n2 : ((k : Int) == 2) = false := by simp; omega
    have n3 : ((k : Int) == 3) = false := by simp; omega
    have hcX := hX3.cell
    have hlX := hX3.lt
    have hfX := hX3.free
    clear k1 k2 k3
    go_wp2_with fail
    have E := val_end h3 hX3 (fun e => hxr e.symm) (by omega) hk3 (by omega) (.int .i64 k) (.int .i64 0) (.string ⟨#[]⟩)
    exact bodyPost_ret (results_c rfl rfl E.1 Tryd.underlying116 rfl Tryd.sizeV) rfl ⟨by rw [← hsv], by rw [← hsv]; exact E.2.1, E.2.2⟩
end Go.Proofs.YtllcidpmdmacjaaDoor
