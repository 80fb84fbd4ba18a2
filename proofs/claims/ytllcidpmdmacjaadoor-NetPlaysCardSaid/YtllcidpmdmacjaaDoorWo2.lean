/- Rows as bytes: PutRow. -/
import Derived.Test.YtllcidpmdmacjaaDoorWo

namespace Go.Proofs.YtllcidpmdmacjaaDoor
open Go.RowKit Go.Lib

/-- an error of a class, placed or not -/
inductive ErrP (w : World) (ev : Value) (f : Nat) : Prop
  | base (h : ErrF w ev f) : ErrP w ev f
  | placed {b : Nat} {i : Int} {ev' : Value} (he : ev = .iface 66 (.pointer (some ⟨b, 0, none⟩))) (hB : Blk w b 72 #[.int .i64 i, ev']) (h : ErrF w ev' f) (h0 : f ≠ 0) : ErrP w ev f
theorem ErrP.keep {w w' : World} {ev : Value} {f : Nat} (h : ErrP w ev f) (hk : Keeps [] w w') : ErrP w' ev f := by
  cases h with
  | base h => exact .base (h.keep hk)
  | placed he hB h h0 => exact .placed he (hB.keep hk (by simp)) (h.keep hk) h0
theorem ErrP.zero {w : World} {ev : Value} {f : Nat} (h : ErrP w ev f) : ev = .nilIface ↔ f = 0 := by
  cases h with
  | base h => exact h.zero
  | placed he _ _ h0 => subst he; simp [h0]

/-- the cells of the k-th value -/
theorem Rv.at {w : World} {ao : Option Addr} {c : Nat} {l : List Va} (h : Rv w ao c l) {k : Nat} {v : Va} (hv : l[k]? = some v) :
    ∃ bb o, ao = some ⟨bb, o, none⟩ ∧ w.cell? ⟨bb, o + k * 3, none⟩ = some (.int .i64 v.kind) ∧ w.cell? ⟨bb, o + k * 3 + 1, none⟩ = some (.int .i64 v.int) ∧ w.cell? ⟨bb, o + k * 3 + 2, none⟩ = some (.string v.text) := by
  have hkl := (List.getElem?_eq_some_iff.1 hv).1
  obtain ⟨bb, o, rfl⟩ := Sl.at h (by have := h.cap; omega)
  have key : ∀ (l : List Va) (k : Nat), l[k]? = some v → ∀ j u, v.cells.toList[j]? = some u → (vals l)[k * 3 + j]? = some u := by
    intro l
    induction l with
    | nil => intro k h; simp at h
    | cons x l ih =>
      intro k hk j u hu
      rw [vals_cons]
      cases k with
      | zero =>
        simp only [List.getElem?_cons_zero, Option.some.injEq] at hk
        subst hk
        rw [Nat.zero_mul, Nat.zero_add, List.getElem?_append_left (List.getElem?_eq_some_iff.1 hu).1]
        exact hu
      | succ k =>
        rw [List.getElem?_append_right (by simp; omega)]
        have := ih k (by simpa using hk) j u hu
        rw [← this]
        congr 1
        simp
        omega
  have hc := fun j u hu => h.cell _ rfl _ u (key l k hv j u hu)
  refine ⟨bb, o, rfl, ?_, ?_, ?_⟩
  · have := hc 0 _ rfl; simpa using this
  · have := hc 1 _ rfl; simpa [Nat.add_assoc] using this
  · have := hc 2 _ rfl; simpa [Nat.add_assoc] using this

theorem putVs_append (l m : List Va) : putVs (l ++ m) = putVs l ++ putVs m := by simp [putVs]
theorem putVs_one (v : Va) : putVs [v] = putV v := by simp [putVs]
theorem putVs_length {l : List Va} (h : ∀ v ∈ l, mayV v = true) (hi : ∀ v ∈ l, (Lit.int .i64 v.int).wf = true) : (putVs l).length ≤ 51 * l.length := by
  induction l with
  | nil => simp [putVs]
  | cons v l ih =>
    have h1 := putV_length (h v (by simp)) (fun _ => zigzag_lt' (hi v (by simp)))
    have h2 := ih (fun x hx => h x (by simp [hx])) (fun x hx => hi x (by simp [hx]))
    have e : putVs (v :: l) = putV v ++ putVs l := by simp [putVs]
    rw [e, List.length_append, List.length_cons]
    omega

set_option maxRecDepth 100000 in
set_option maxHeartbeats 8000000 in
theorem putRow_any (ao : Option Addr) (c : Nat) (l : List Va) (w : World) (h : Rv w ao c l) (hi' : ∀ v ∈ l, (Lit.int .i64 v.int).wf = true) :
    Calls Tryd.prog 29 #[.slice ao l.length c] w fun e w' => ∃ bo d ev, e = .returned (.tuple #[.slice bo (if rowOk l then putRow l else []).length d, ev]) ∧ Own w' w.heap.size bo d (if rowOk l then putRow l else []) ∧ ErrP w' ev (if rowOk l then 0 else 20) ∧ Keeps [] w w' := by
  obtain ⟨i, z, hi, hz, hsz, hby, hzc⟩ := infoB
  generalize hres : (if rowOk l then putRow l else []) = res
  generalize hcls : (if rowOk l then 0 else 20) = cls
  unfold rowOk at hres hcls
  by_cases h64 : 64 < l.length
  · have hd : decide (l.length ≤ 64) = false := by simp; omega
    rw [hd, Bool.false_and] at hres hcls
    simp only [Bool.false_eq_true, if_false] at hres hcls
    subst hres hcls
    have n1 : (64 : Int) < (l.length : Int) := by omega
    go_enter Tryd.func29, Tryd.ntmps29
    go_wp2_with fail
    refine (wform _ w).mono ?_
    rintro e w1 ⟨g, rfl, hE, hk1⟩
    go_wp2_with fail
    go_ret2
    exact ⟨none, 0, _, rfl, Own.nil _ _, .base (ErrF.of hE (by simp)), hk1⟩
  · have hd : decide (l.length ≤ 64) = true := by simp; omega
    rw [hd, Bool.true_and] at hres hcls
    have n1 : ¬ ((64 : Int) < (l.length : Int)) := by omega
    have q1 : IntKind.u64.wrap (l.length : Int) = l.length := IntWalk.u64_in _ (by omega)
    have HI := Lib.hid hi'
    clear hi' hd
    go_enter Tryd.func29, Tryd.ntmps29
    go_wp2_with fail
    refine (putUint l.length w (by omega)).mono ?_
    rintro e w1 ⟨bo, d, rfl, hO1, hk1⟩
    go_wp2_with fail
    go_loopw [4, 17] (fun v j wr => ∃ (k : Nat) (bo : Option Addr) (d : Nat) (b : List UInt8), v = .slice bo b.length d ∧ j = .int .i64 (k : Int) ∧ k ≤ l.length ∧ b = uvarint l.length ++ putVs (l.take k) ∧ (∀ v ∈ l.take k, mayV v = true) ∧ Own wr w.heap.size bo d b ∧ Keeps [] w wr) (fun _ j _ => l.length - (intOf j).toNat)
    case atStart => exact ⟨0, bo, d, uvarint l.length, rfl, rfl, by omega, by simp [putVs], by simp, hO1, hk1⟩
    case round =>
      obtain ⟨k, bo, d, b, rfl, rfl, hk, hb, hmay, hO, hkr⟩ := hrel
      clear hO1 hk1
      by_cases hkl : k = l.length
      · subst hkl
        rw [List.take_length] at hb hmay
        have hall : l.all mayV = true := by rw [List.all_eq_true]; exact hmay
        rw [hall] at hres hcls
        simp only [if_true] at hres hcls
        have hbr : b = res := by rw [hb, ← hres]; rfl
        clear hb hmay hall hres
        subst hbr hcls
        go_wp2_with fail
        go_ret2
        exact ⟨bo, d, .nilIface, rfl, hO, .base (.inl ⟨rfl, rfl⟩), hkr⟩
      have hlt : k < l.length := by omega
      have hlti : (k : Int) < (l.length : Int) := by omega
      have s2 : IntKind.i64.wrap ((k : Int) + 1) = k + 1 := IntWalk.i64_in _ (by omega)
      have hv := List.getElem?_eq_getElem hlt
      generalize hvv : l[k] = v at hv
      have hvm : v ∈ l := by rw [← hvv]; exact List.getElem_mem _
      have hwf := HI.out v hvm
      have htk : l.take (k + 1) = l.take k ++ [v] := by rw [List.take_add_one, hv]; rfl
      obtain ⟨bb, o, rfl, c0, c1, c2⟩ := Rv.at (h.keep0 hkr) hv
      clear hvv hv
      have hX := Blk.fresh wr 116 v.cells
      have hkx := hkr.alloc (.cells v.cells 116)
      have hOx := hO.keep0 ((Keeps.refl [] wr).alloc (.cells v.cells 116))
      have P := fun w' => may_any v w'
      have HP := Lib.hid P
      clear P
      have HT := Lib.hid htk
      have HM := Lib.hid hmay
      have HB := Lib.hid hb
      clear htk hmay hb
      go_upto_region 7 with (fail)
      clear c0 c1 c2
      generalize World.alloc wr _ = w2 at *
      generalize wr.heap.size = xb at *
      have hcX := hX.cell
      have hlX := hX.lt
      go_wp2_with fail
      refine (HP.out _).mono ?_
      rintro e w3 ⟨rfl, hk3⟩
      have hX3 := hX.keep hk3 (by simp)
      have hO3 := hOx.keep0 hk3
      have hk03 := hkx.trans hk3
      clear hX hOx hkx hk3 hcX hlX HP hO hkr
      have hcX := hX3.cell
      have hlX := hX3.lt
      cases hm : mayV v with
      | false =>
        have hall : l.all mayV = false := by rw [List.all_eq_false]; exact ⟨v, hvm, by simp [hm]⟩
        rw [hall] at hres hcls
        simp only [Bool.false_eq_true, if_false] at hres hcls
        subst hres hcls
        clear hm hall
        go_wp2_with fail
        refine (wform _ _).mono ?_
        rintro e w4 ⟨g, rfl, hE, hk4⟩
        go_wp2_with fail
        go_ret2
        exact ⟨none, 0, _, rfl, Own.nil _ _, .placed rfl (Blk.fresh _ _ _) (ErrF.keep (ErrF.of hE (by simp)) ((Keeps.refl [] w4).alloc _)) (by decide), (hk03.trans hk4).alloc _⟩
      | true =>
        have hmay' : ∀ x ∈ l.take (k + 1), mayV x = true := by
          intro x hx
          rw [HT.out, List.mem_append, List.mem_singleton] at hx
          rcases hx with hx | rfl
          · exact HM.out x hx
          · exact hm
        have hlb : b.length ≤ 10000 := by
          rw [HB.out, List.length_append]
          have h1 := uvarint_length64 (x := l.length) (by omega)
          have h2 := putVs_length (l := l.take k) HM.out (fun x hx => HI.out x (List.mem_of_mem_take hx))
          have h3 : (l.take k).length ≤ 64 := by simp; omega
          omega
        have hend : ∀ B, B = b ++ putV v → B = uvarint l.length ++ putVs (l.take (k + 1)) := by
          rintro B rfl
          rw [HT.out, putVs_append, putVs_one, ← List.append_assoc, ← HB.out]
        have HE := Lib.hid hend
        have HY := Lib.hid hmay'
        have hkk := mayV_kind hm
        have hbo := fun h => mayV_bool hm h
        have htx := fun h => mayV_text hm h
        clear hend hmay' hm HT HM HB hres hcls
        obtain ⟨vk, vi, vt⟩ := v
        simp only at hkk hbo htx hwf
        obtain ⟨kb, hkb⟩ : ∃ kb : UInt8, kb = UInt8.ofNat vk.toNat := ⟨_, rfl⟩
        have qk : IntKind.u8.wrap vk = ((kb.toNat : Nat) : Int) := by
          rw [hkb]
          rcases hkk with rfl | rfl | rfl | rfl <;> decide
        have HKB := Lib.hid hkb
        clear hkb
        have hO4 := hO3.keep0 ((Keeps.refl [] w3).alloc (.cells #[.int .u8 kb.toNat] 5))
        have hX4 := hX3.keep ((Keeps.refl [] w3).alloc (.cells #[.int .u8 kb.toNat] 5)) (by simp)
        have hk04 := hk03.alloc (.cells #[.int .u8 kb.toNat] 5)
        go_upto_region 10 with (at_builtin; refine wpList_append_by _ rfl _ _ 34 34 rfl (w.heap.size) 5 i z 1 1 Tryd.underlying34 hi hz hsz hby hzc (bo) _ (d) _ rfl hO4 _ rfl 1 _ ((rb1 (x := kb) (Blk.fresh _ _ _)).src Tryd.underlying34) (by unfold maxLen; omega) (by omega) (by have := hk03.size; simp; omega) ?_; intro bo1 d1 w5 hO' hk' hb')
        have hO5 := Own.of hO' (bys_append b [kb]).symm
        have hX5 := hX4.keep hk' (fun hx => ownsRow_ne hO4 hX4 (by decide) xb hx rfl)
        have hk05 := hk04.own hk' hO4
        have hlen1 : b.length + 1 = (b ++ [kb]).length := by simp
        rw [hlen1]
        clear hO' hk' hb' hO4 hX4 hk04 hO3 hX3 hk03 hcX hlX qk
        have hcX := hX5.cell
        have hlX := hX5.lt
        generalize hb1 : b ++ [kb] = b1 at *
        have hl1 : b1.length ≤ 10001 := by omega
        rcases hkk with rfl | rfl | rfl | rfl
        · clear hbo htx
          go_wp2_with fail
          go_roundw
          case rel => exact ⟨k + 1, bo1, d1, b1, by simp, by simp, by omega, HE.out _ (by rw [← hb1, HKB.out]; simp [putV]), HY.out, hO5, hk05⟩
          case measure => simp [intOf]; omega
        · have hkb := HKB.out
          obtain ⟨x, hx, hxb⟩ : ∃ x : UInt8, IntKind.u8.wrap vi = ((x.toNat : Nat) : Int) ∧ x = UInt8.ofNat vi.toNat := by
            rcases hbo rfl with rfl | rfl
            · exact ⟨0, by decide, rfl⟩
            · exact ⟨1, by decide, rfl⟩
          clear hbo htx HKB
          have hfin : b1 ++ [x] = b ++ putV ⟨1, vi, vt⟩ := by rw [← hb1, hkb, hxb]; simp [putV]
          clear hxb hkb hb1
          have hO6 := hO5.keep0 ((Keeps.refl [] w5).alloc (.cells #[.int .u8 x.toNat] 5))
          go_upto_region 17 with (at_builtin; refine wpList_append_by _ rfl _ _ 34 34 rfl (w.heap.size) 5 i z 1 1 Tryd.underlying34 hi hz hsz hby hzc (bo1) _ (d1) _ rfl hO6 _ rfl 1 _ ((rb1 (x := x) (Blk.fresh _ _ _)).src Tryd.underlying34) (by unfold maxLen; omega) (by omega) (by have := hk05.size; simp; omega) ?_; intro bo2 d2 w6 hO' hk' hb')
          have hO7 := Own.of hO' (bys_append b1 [x]).symm
          have hk06 := (hk05.alloc _).own hk' hO6
          go_wp2_with fail
          go_roundw
          case rel => exact ⟨k + 1, bo2, d2, b1 ++ [x], by simp, by simp, by omega, HE.out _ hfin, HY.out, hO7, hk06⟩
          case measure => simp [intOf]; omega
        · have hkb := HKB.out
          clear hbo htx HKB
          have P := putInt vi w5 hwf
          have hzl := zigzag_lt' hwf
          have hul := uvarint_length64 hzl
          have hfin : b1 ++ uvarint (zigzag vi) = b ++ putV ⟨2, vi, vt⟩ := by rw [← hb1, hkb]; simp [putV]
          generalize uvarint (zigzag vi) = ys at *
          clear hkb hb1
          go_wp2_with fail
          refine P.mono ?_
          rintro e w6 ⟨co, cc, rfl, hC, hk6⟩
          have hO6 := hO5.keep0 hk6
          have hk06 := hk05.trans hk6
          clear P hcX hlX
          go_upto_region 17 with (at_builtin; refine wpList_append_by _ rfl _ _ 34 34 rfl (w.heap.size) 5 i z 1 1 Tryd.underlying34 hi hz hsz hby hzc (bo1) _ (d1) _ rfl hO6 _ rfl ys.length _ (hC.rb.src Tryd.underlying34) (by unfold maxLen; omega) (by omega) hk06.size ?_; intro bo2 d2 w7 hO' hk' hb')
          have hO7 := Own.of hO' (bys_append b1 ys).symm
          have hk07 := hk06.own hk' hO6
          go_wp2_with fail
          go_roundw
          case rel => exact ⟨k + 1, bo2, d2, b1 ++ ys, by simp, by simp, by omega, HE.out _ hfin, HY.out, hO7, hk07⟩
          case measure => simp [intOf]; omega
        · have ht3 := (htx rfl).2.1
          have hkb := HKB.out
          clear hbo htx HKB
          have P := putText vt w5 (by omega)
          have hul := uvarint_length64 (x := vt.size) (by omega)
          have hsl : vt.data.toList.length = vt.size := by rw [Array.length_toList]; rfl
          have hyl : (uvarint vt.size ++ vt.data.toList).length ≤ 50 := by rw [List.length_append]; omega
          have hfin : b1 ++ (uvarint vt.size ++ vt.data.toList) = b ++ putV ⟨3, vi, vt⟩ := by rw [← hb1, hkb]; simp [putV]
          generalize uvarint vt.size ++ vt.data.toList = ys at *
          clear hkb hb1 hul hsl
          go_wp2_with fail
          refine P.mono ?_
          rintro e w6 ⟨co, cc, rfl, hC, hk6⟩
          have hO6 := hO5.keep0 hk6
          have hk06 := hk05.trans hk6
          clear P hcX hlX
          go_upto_region 17 with (at_builtin; refine wpList_append_by _ rfl _ _ 34 34 rfl (w.heap.size) 5 i z 1 1 Tryd.underlying34 hi hz hsz hby hzc (bo1) _ (d1) _ rfl hO6 _ rfl ys.length _ (hC.rb.src Tryd.underlying34) (by unfold maxLen; omega) (by omega) hk06.size ?_; intro bo2 d2 w7 hO' hk' hb')
          have hO7 := Own.of hO' (bys_append b1 ys).symm
          have hk07 := hk06.own hk' hO6
          go_wp2_with fail
          go_roundw
          case rel => exact ⟨k + 1, bo2, d2, b1 ++ ys, by simp, by simp, by omega, HE.out _ hfin, HY.out, hO7, hk07⟩
          case measure => simp [intOf]; omega
end Go.Proofs.YtllcidpmdmacjaaDoor
