/- A tree's nodes: next, of an inner one. -/
import Derived.Test.YtknnhnpcgefchaaDoorTr17

namespace Go.Proofs.YtknnhnpcgefchaaDoor
open Go.RowKit Go.Lib

set_option maxRecDepth 100000 in
set_option maxHeartbeats 4000000 in
theorem nnext1 {d : Nat} (IH : ∀ (w : World) (F : Nat → Prop) (m M b : Nat) (f : Bs) (l : List KV) (ko : Option Addr) (kc : Nat) (k : Bs) (ab : Bool), NdAt w F d m M b f l → M ≤ 100 → Rb w ko kc k → Calls Tryd.prog 23 #[.pointer (some ⟨b, 0, none⟩), .slice ko k.length kc, .bool ab] w fun e w' => NextPost w F k ab l e w')
    {w : World} {F : Nat → Prop} {m M b : Nat} {f : Bs} {l : List KV} {ko : Option Addr} {kc : Nat} {k : Bs} {ab : Bool} (h : NdAt w F (d + 1) m M b f l) (hM : M ≤ 100) (hk : Rb w ko kc k) :
    Calls Tryd.prog 23 #[.pointer (some ⟨b, 0, none⟩), .slice ko k.length kc, .bool ab] w fun e w' => NextPost w F k ab l e w' := by
  have HIH := Lib.hid IH
  obtain ⟨fo, fc, po, pc, co, cc, cs, hB, hb, hf, hff, hS0, hS, hfc, hcs, hfl0, hah, hhd, hm0, hM2, hfl⟩ := h
  clear IH
  have hne : cs ≠ [] := by rintro rfl; simp at hhd
  have hl0 := List.length_pos_iff.2 hne
  have z0 : (cs.length == 0) = false := by simpa using hne
  have hcap := hS.cap
  obtain ⟨bb, o, rfl⟩ := hS.at (by omega)
  have hX := Blk.fresh w 64 #[.slice none 0 0, .slice none 0 0]
  have hk0 := (Keeps.refl [] w).alloc (.cells #[.slice none 0 0, .slice none 0 0] 64)
  go_enter Tryd.func23, Tryd.ntmps23
  go_upto_region 1 with (fail)
  generalize hw1 : World.alloc w _ = w1 at *
  generalize hxs : w.heap.size = xb at *
  have hB1 := hB.keep hk0 (by simp)
  have hlf := nleaf hB1
  rw [z0] at hlf
  go_wp2_with fail
  refine hlf.mono ?_
  rintro e w2 ⟨rfl, hw⟩
  obtain rfl := hw.symm
  clear hlf
  go_wp2_with fail
  refine (nchild hB1 (hS.keep0 hk0) (fun c hc => (hcs c hc).keep0 hk0) hah hne (by omega) (hk.keep0 hk0)).mono ?_
  rintro e w2 ⟨i, c, rfl, hci, hor, hup, hk2⟩
  have hil := (List.getElem?_eq_some_iff.1 hci).1
  have hst : nxt k ab (flat (cs.take i)) = none := by
    have := nxt_mid (k := k) (ab := ab) (A := flat (cs.take i)) (B := []) (fun p hp => by
      obtain ⟨x, hx, hpx⟩ := flat_mem.1 hp
      rcases hor with h | rfl
      · have hsp : cs = cs.take i ++ c :: cs.drop (i + 1) := by
          have : cs.drop i = c :: cs.drop (i + 1) := by
            rw [List.drop_eq_getElem_cons hil]
            congr 1
            exact (List.getElem?_eq_some_iff.1 hci).2
          rw [← this, List.take_append_drop]
        have h2 := hah
        rw [hsp] at h2
        exact lt_leB (((List.pairwise_append.1 h2).2.2 x hx c List.mem_cons_self).2 p hpx) h
      · simp at hx)
    rw [List.append_nil] at this
    rw [this]
    cases ab <;> rfl
  have hk02 := hk0.trans hk2
  have hX2 := hX.keep hk2 (by simp)
  clear hor hci hup hB1 hX hk0 hk2
  go_wp2_with fail
  go_loopw [10] (fun v wr => ∃ j : Nat, v = .int .i64 (j : Int) ∧ j ≤ cs.length ∧ nxt k ab (flat (cs.take j)) = none ∧ Keeps [] w wr ∧ Blk wr xb 64 #[.slice none 0 0, .slice none 0 0]) (fun v _ => cs.length - (intOf v).toNat)
  case atStart => exact ⟨i, rfl, by omega, hst, hk02, hX2⟩
  case round =>
    clear hst hk02 hX2
    obtain ⟨j, rfl, hj, hn, hkr, hXr⟩ := hrel
    have HN := Lib.hid hn
    clear hn
    have hBr := hB.keep hkr (by simp)
    have c2 : wr.cell? ⟨b, 2, none⟩ = some (.slice (some ⟨bb, o, none⟩) cs.length cc) := hBr.cell 2
    have hbl := hBr.lt
    rcases (by omega : j = cs.length ∨ j < cs.length) with hjn | hjn
    · have n1 : ¬ ((j : Int) < (cs.length : Int)) := by omega
      have hcx := hXr.cell
      have hfx := hXr.free
      have hlx := hXr.lt
      go_wp2_with fail
      have hZ : Blk ((wr.setCell ⟨xb, 0, none⟩ (.slice none 0 0)).setCell ⟨xb, 1, none⟩ (.slice none 0 0)) xb 64 #[.slice none 0 0, .slice none 0 0] := ((hXr.put 0 (.slice none 0 0)).put 1 (.slice none 0 0)).eq (by simp)
      have hkz : Keeps [] w ((wr.setCell ⟨xb, 0, none⟩ (.slice none 0 0)).setCell ⟨xb, 1, none⟩ (.slice none 0 0)) := (hkr.set (p := ⟨xb, 0, none⟩) (.inr (Nat.le_of_eq hxs)) _).set (p := ⟨xb, 1, none⟩) (.inr (Nat.le_of_eq hxs)) _
      refine bodyPost_ret (results_ct rfl rfl hZ Tryd.underlying64 rfl Tryd.sizePr) rfl ?_
      refine ⟨hkz, .inl ⟨?_, rfl⟩⟩
      have := HN.out
      rw [List.take_of_length_le (by omega), hfl0] at this
      exact this
    · have n1 : (j : Int) < (cs.length : Int) := by omega
      have n2 : (0 : Int) ≤ (j : Int) := by omega
      obtain ⟨x, hx⟩ : ∃ x, cs[j]? = some x := ⟨_, List.getElem?_eq_getElem hjn⟩
      have hxm := List.mem_of_getElem? hx
      have cp : wr.cell? ⟨bb, o + j, none⟩ = some (.pointer (some ⟨x.b, 0, none⟩)) := by
        have := ((hS.keep0 hkr).cells rfl j (.pointer (some ⟨x.b, 0, none⟩)) (by simp [ptrs, hx]))
        rwa [addr_add rfl] at this
      have hstep : nxt k ab (flat (cs.take (j + 1))) = nxt k ab x.l := by
        have e : cs.take (j + 1) = cs.take j ++ [x] := by
          rw [List.take_add_one, hx]
          rfl
        rw [e, flat_app, nxt_app, HN.out]
        simp [flat]
      have htot : ∀ y, nxt k ab x.l = some y → nxt k ab l = some y := fun y hy => by
        have e : cs = cs.take (j + 1) ++ cs.drop (j + 1) := (List.take_append_drop _ _).symm
        rw [← hfl0, e, flat_app, nxt_app, hstep, hy]
        rfl
      have HSTEP := Lib.hid hstep
      have HTOT := Lib.hid htot
      clear hstep htot hx
      go_wp2_with fail
      refine (HIH.out wr (fun y => F y ∧ y < xb) 4 16 x.b x.f x.l ko kc k ab (((hcs x hxm).mono (fun y hy hlt => ⟨hy, by omega⟩)).keep0 hkr) (by omega) (hk.keep0 hkr)).mono ?_
      rintro e w3 ⟨hk3, hres⟩
      have hX3 := hXr.keep hk3 (by simp)
      have hk03 := hkr.trans hk3
      have hk03s := hk03.size
      have hX3l := hX3.lt
      clear hBr c2 cp hbl hXr hkr
      rcases hres with ⟨hno, rfl⟩ | ⟨q, hyes, hq, rfl⟩
      · go_wp2_with fail
        go_roundw
        case rel => exact ⟨j + 1, by simp, by omega, by rw [HSTEP.out]; exact hno, hk03.alloc _, hX3.alloc _⟩
        case measure => simp [intOf]; omega
      · go_upto_region 12 with (fail)
        change Code.wp _ _ _ _ (World.alloc w3 (.cells q.cells 64))
        have hQ := Blk.fresh w3 64 q.cells
        have hX4 := hX3.alloc (.cells q.cells 64)
        have hk04 := hk03.alloc (.cells q.cells 64)
        have hk34 := (Keeps.refl [] w3).alloc (.cells q.cells 64)
        generalize World.alloc w3 _ = w4 at *
        generalize w3.heap.size = tb at *
        go_wp2_with (first
          | (refine wpList_load_agg rfl 64 _ rfl tb 0 2 rfl 64 q.cells _ hQ Tryd.underlying64 rfl Tryd.sizePr (by simp) q.cells rfl ?_)
          | (refine wpList_store_agg rfl rfl 64 _ _ rfl xb 0 rfl q.cells.toList rfl 64 _ hX4 Tryd.sizePr (by simp) rfl q.cells rfl ?_; intro w5 hX5 hk5))
        refine bodyPost_ret (results_ct rfl rfl hX5 Tryd.underlying64 rfl Tryd.sizePr) rfl ?_
        have hk05 := hk04.step hk5 (fun x hx => by simp at hx; subst hx; exact .inr (Nat.le_of_eq hxs))
        exact ⟨hk05, .inr ⟨q, HTOT.out _ hyes, ((hq.keep0 hk34).keep hk5 (fun y hy hF => by simp at hy; omega)).mono (fun y hy _ => hy.1), rfl⟩⟩
theorem nnext : ∀ (d : Nat) (w : World) (F : Nat → Prop) (m M b : Nat) (f : Bs) (l : List KV) (ko : Option Addr) (kc : Nat) (k : Bs) (ab : Bool), NdAt w F d m M b f l → M ≤ 100 → Rb w ko kc k → Calls Tryd.prog 23 #[.pointer (some ⟨b, 0, none⟩), .slice ko k.length kc, .bool ab] w fun e w' => NextPost w F k ab l e w'
  | 0, _, _, _, _, _, _, _, _, _, _, _, h, hM, hk => nnext0 h hM hk
  | d + 1, _, _, _, _, _, _, _, _, _, _, _, h, hM, hk => nnext1 (nnext d) h hM hk
end Go.Proofs.YtknnhnpcgefchaaDoor
