/- The document's entry. -/
import Derived.Test.YtcaahgjepkcenaaDoorWrc
import Derived.Test.YtcaahgjepkcenaaDoorWy

namespace Go.Proofs.YtcaahgjepkcenaaDoor
open Go.RowKit Go.Lib

theorem bys_drop {l : List UInt8} {k : Nat} {a : UInt8} {r : List UInt8} (h : l.drop k = a :: r) : (bys l)[k]? = some (.int .u8 a.toNat) := by
  have h0 : l[k]? = some a := by
    have := List.getElem?_drop (xs := l) (i := k) (j := 0)
    rw [h] at this
    simpa using this.symm
  unfold bys
  rw [List.getElem?_map, h0]
  rfl
theorem drop_next {l : List UInt8} {k : Nat} {a : UInt8} {r : List UInt8} (h : l.drop k = a :: r) : l.drop (k + 1) = r := by
  rw [← List.drop_drop, h]
  rfl
theorem rbD2 {w : World} {ao : Option Addr} {c : Nat} {l : List UInt8} (h : Rb w ao c l) {k : Nat} (hk : k ≤ l.length) : Rb w (if c = k then ao else Option.map (fun x => x.add k) ao) (c - k) (l.drop k) := by
  have hD := h.drop hk
  simp only [Nat.mul_one] at hD
  have hbd : (bys l).drop k = bys (l.drop k) := by unfold bys; rw [List.map_drop]
  rw [hbd] at hD
  unfold Rb
  rw [List.length_drop]
  exact hD

section
variable {l : List UInt8} {t n e : Nat}
theorem docE_u (h : rdU 0 0 l = (t, n, e)) (h0 : e ≠ 0) : docE l = bad E0 e := seqD_bad1 h h0
theorem docE_end (h : rdU 0 0 l = (t, n, 0)) (hk : l.drop n = []) : docE l = bad E0 22 :=
  seqD_bad2 h (by rw [hk]; exact seqD_bad1 (d := docK) (e := 22) rfl (by decide)) (by decide)
variable {b : UInt8} {r : List UInt8}
theorem docE_kind (h : rdU 0 0 l = (t, n, 0)) (hk : l.drop n = b :: r) (hb : 1 < b.toNat) : docE l = bad E0 20 :=
  seqD_bad2 h (by rw [hk]; exact seqD_bad1 (d := docK) (x := 0) (n := 0) (e := 20) (by unfold docK; dsimp only; rw [if_pos hb]; rfl) (by decide)) (by decide)
theorem docK_ok (hb : ¬ 1 < b.toNat) : docK (b :: r) = (b.toNat, 1, 0) := by unfold docK; dsimp only; rw [if_neg hb]
theorem docE_none (h : rdU 0 0 l = (t, n, 0)) (hk : l.drop n = b :: r) (hb : b.toNat = 0) : docE l = (⟨t, 0, 0, 0, ⟨#[]⟩⟩, n + 1, 0) := by
  have h2 : docK (b :: r) = (0, 1, 0) := hb ▸ docK_ok (b := b) (r := r) (by omega)
  refine seqD_ok h (m := 1) ?_
  rw [hk]
  exact seqD_ok h2 (m := 0) rfl
theorem docE_one (h : rdU 0 0 l = (t, n, 0)) (hk : l.drop n = b :: r) (hb : b.toNat = 1) : docE l = (if (docEr t 1 r).2.2 ≠ 0 then bad E0 (docEr t 1 r).2.2 else ((docEr t 1 r).1, n + (1 + (docEr t 1 r).2.1), 0)) := by
  have h2 : docK (b :: r) = (1, 1, 0) := hb ▸ docK_ok (b := b) (r := r) (by omega)
  have hd : (b :: r).drop 1 = r := rfl
  generalize hx : docEr t 1 r = x
  obtain ⟨x, m, e⟩ := x
  dsimp only
  by_cases he : e = 0
  · subst he
    rw [if_neg (by simp)]
    refine seqD_ok h ?_
    rw [hk]
    exact seqD_ok h2 (by rw [hd]; exact hx)
  · rw [if_pos he]
    refine seqD_bad2 h (m := 0) (y := E0) ?_ he
    rw [hk]
    exact seqD_bad2 h2 (by rw [hd]; exact hx) he
variable {c m q m2 m3 : Nat} {x : List UInt8}
theorem docEr1 (t : Nat) (r : List UInt8) : docEr t 1 r = seqD (rdU 0 0) (fun _ => seqD (rdU 0 0) (fun _ => docS) Prod.mk (0, [])) (fun a x => (⟨t, 1, a, x.1, ⟨x.2.toArray⟩⟩ : Ent)) E0 r := by unfold docEr; rw [if_pos rfl]
theorem docE_c (h : rdU 0 0 l = (t, n, 0)) (hk : l.drop n = b :: r) (hb : b.toNat = 1) (hc : rdU 0 0 (l.drop (n + 1)) = (c, m, e)) (h0 : e ≠ 0) : docE l = bad E0 e := by
  rw [drop_next hk] at hc
  rw [docE_one h hk hb]
  have hx : docEr t 1 r = bad E0 e := by rw [docEr1]; exact seqD_bad1 hc h0
  rw [hx]
  exact if_pos h0
theorem docE_s (h : rdU 0 0 l = (t, n, 0)) (hk : l.drop n = b :: r) (hb : b.toNat = 1) (hc : rdU 0 0 (l.drop (n + 1)) = (c, m, 0)) (hq : rdU 0 0 (l.drop (n + 1 + m)) = (q, m2, e)) (h0 : e ≠ 0) : docE l = bad E0 e := by
  rw [← List.drop_drop, drop_next hk] at hq
  rw [drop_next hk] at hc
  rw [docE_one h hk hb]
  have hx : docEr t 1 r = bad E0 e := by
    rw [docEr1]
    refine seqD_bad2 hc (m := 0) (y := (0, [])) ?_ h0
    exact seqD_bad1 hq h0
  rw [hx]
  exact if_pos h0
theorem docE_t (h : rdU 0 0 l = (t, n, 0)) (hk : l.drop n = b :: r) (hb : b.toNat = 1) (hc : rdU 0 0 (l.drop (n + 1)) = (c, m, 0)) (hq : rdU 0 0 (l.drop (n + 1 + m)) = (q, m2, 0)) (ht : docS (l.drop (n + 1 + m + m2)) = (x, m3, e)) (h0 : e ≠ 0) : docE l = bad E0 e := by
  rw [← List.drop_drop (j := n + 1 + m), ← List.drop_drop (j := n + 1), drop_next hk] at ht
  rw [← List.drop_drop, drop_next hk] at hq
  rw [drop_next hk] at hc
  rw [docE_one h hk hb]
  have hx : docEr t 1 r = bad E0 e := by
    rw [docEr1]
    refine seqD_bad2 hc (m := 0) (y := (0, [])) ?_ h0
    exact seqD_bad2 hq ht h0
  rw [hx]
  exact if_pos h0
theorem docE_ok (h : rdU 0 0 l = (t, n, 0)) (hk : l.drop n = b :: r) (hb : b.toNat = 1) (hc : rdU 0 0 (l.drop (n + 1)) = (c, m, 0)) (hq : rdU 0 0 (l.drop (n + 1 + m)) = (q, m2, 0)) (ht : docS (l.drop (n + 1 + m + m2)) = (x, m3, 0)) : docE l = (⟨t, 1, c, q, ⟨x.toArray⟩⟩, n + 1 + m + m2 + m3, 0) := by
  rw [← List.drop_drop (j := n + 1 + m), ← List.drop_drop (j := n + 1), drop_next hk] at ht
  rw [← List.drop_drop, drop_next hk] at hq
  rw [drop_next hk] at hc
  rw [docE_one h hk hb]
  have hx : docEr t 1 r = (⟨t, 1, c, q, ⟨x.toArray⟩⟩, m + (m2 + m3), 0) := by
    rw [docEr1]
    refine seqD_ok hc (y := (q, x)) (m := m2 + m3) ?_
    exact seqD_ok hq ht
  rw [hx]
  dsimp only
  rw [if_neg (by simp)]
  congr 2
  omega
end

theorem ent5_end {w0 w : World} {xb : Nat} {x0 x1 x2 x3 x4 : Value} (hX : Blk w xb 42 #[x0, x1, x2, x3, x4]) (hk : Keeps [] w0 w) (hx : w0.heap.size ≤ xb) (a b c d e : Value) :
    ∀ W, W = ((((w.setCell ⟨xb, 0, none⟩ a).setCell ⟨xb, 1, none⟩ b).setCell ⟨xb, 2, none⟩ c).setCell ⟨xb, 3, none⟩ d).setCell ⟨xb, 4, none⟩ e → Blk W xb 42 #[a, b, c, d, e] ∧ Keeps [] w0 W := by
  rintro W rfl
  exact ⟨(((((hX.put 0 a).put 1 b).put 2 c).put 3 d).put 4 e).eq (by simp),
   ((((hk.set (p := ⟨xb, 0, none⟩) (.inr hx) a).set (p := ⟨xb, 1, none⟩) (.inr hx) b).set (p := ⟨xb, 2, none⟩) (.inr hx) c).set (p := ⟨xb, 3, none⟩) (.inr hx) d).set (p := ⟨xb, 4, none⟩) (.inr hx) e⟩
theorem ent5_put {w0 w : World} {xb vb : Nat} {X V : Array Value} (hX : Blk w xb 42 X) (hV : Blk w vb 42 V) (hk : Keeps [] w0 w) (hvx : vb ≠ xb) (hv : w0.heap.size ≤ vb) (k : Nat) (u : Value) (V' : Array Value) (h : V.setIfInBounds k u = V') :
    ∀ W, W = w.setCell ⟨vb, k, none⟩ u → Blk W xb 42 X ∧ Blk W vb 42 V' ∧ Keeps [] w0 W := by
  rintro W rfl
  exact ⟨hX.other (p := ⟨vb, k, none⟩) (fun e => hvx e.symm) u, (hV.put k u).eq h, hk.set (p := ⟨vb, k, none⟩) (.inr hv) u⟩

set_option maxRecDepth 100000 in
set_option maxHeartbeats 800000 in
theorem entryR_any (ao : Option Addr) (c : Nat) (l : List UInt8) (w : World) (h : Rb w ao c l) (hmil : l.length ≤ 1000000) :
    Calls Tryd.prog 40 #[.slice ao l.length c] w fun e w' => e = .returned (.tuple #[.agg (docE l).1.cells, .int .i64 (docE l).2.1, .int .i64 (docE l).2.2]) ∧ Keeps [] w w' := by
  have hX := Blk.fresh w 42 #[.int .u64 0, .int .i64 0, .int .u64 0, .int .u64 0, .string ⟨#[]⟩]
  have hkx := (Keeps.refl [] w).alloc (.cells #[.int .u64 0, .int .i64 0, .int .u64 0, .int .u64 0, .string ⟨#[]⟩] 42)
  have hmx := h.most
  have hcp := h.cap
  unfold maxLen at hmx
  obtain ⟨dv, hdv⟩ : ∃ dv, docE l = dv := ⟨_, rfl⟩
  rw [hdv]
  have HU1 := fun W (hk : Keeps [] w W) => uintR_any ao c l W (h.keep0 hk)
  have hs1 := rdU_size l
  obtain ⟨u, hu⟩ : ∃ u, rdU 0 0 l = u := ⟨_, rfl⟩
  rw [hu] at HU1 hs1
  obtain ⟨t, n, e1⟩ := u
  dsimp only at HU1 hs1
  have HU := Lib.hid HU1
  have HDV := Lib.hid hdv
  have HE1 := Lib.hid hu
  clear HU1 hdv hu
  go_enter Tryd.func40, Tryd.ntmps40
  go_upto_region 1 with (fail)
  generalize World.alloc w _ = w1 at *
  have hxw : w.heap.size ≤ w.heap.size := Nat.le_refl _
  generalize hxe : w.heap.size = xb at *
  rw [← hxe] at hxw
  have hxw2 : w.heap.size ≤ xb := by omega
  clear hxw
  go_upto_region 2 with (fail)
  have hV := Blk.fresh w1 42 #[.int .u64 0, .int .i64 0, .int .u64 0, .int .u64 0, .string ⟨#[]⟩]
  have hkA := (Keeps.refl [] w1).alloc (.cells #[.int .u64 0, .int .i64 0, .int .u64 0, .int .u64 0, .string ⟨#[]⟩] 42)
  have hX2 := hX.keep hkA (by simp)
  have hk2 := hkx.trans hkA
  have hvx : w1.heap.size ≠ xb := by have := hX.lt; omega
  have hvw : w.heap.size ≤ w1.heap.size := hkx.size
  clear hX hkx hkA hxe
  generalize World.alloc w1 _ = w2 at *
  generalize w1.heap.size = vb at *
  go_wp2_with fail
  refine (HU.out w2 hk2).mono ?_
  rintro e w' ⟨rfl, hw⟩
  obtain rfl := hw.symm
  clear hw HU
  have hcX := hX2.cell
  have hlX := hX2.lt
  have hfX := hX2.free
  have hcV := hV.cell
  have hlV := hV.lt
  have hfV := hV.free
  by_cases he0 : e1 = 0
  rotate_left
  · have HD := Lib.hid (HDV.out.symm.trans (docE_u HE1.out he0))
    have HE := Lib.hid (ent5_end hX2 hk2 hxw2 (.int .u64 0) (.int .i64 0) (.int .u64 0) (.int .u64 0) (.string ⟨#[]⟩))
    have n5 : ((e1 : Int) == 0) = false := by simp; omega
    clear he0
    go_wp2_with fail
    obtain ⟨E1, E2⟩ := HE.out _ rfl
    exact bodyPost_ret (results_ctt rfl rfl E1 Tryd.underlying42 rfl Tryd.sizeE) rfl ⟨by rw [HD.out]; rfl, E2⟩
  subst he0
  have HP := Lib.hid (ent5_put hX2 hV hk2 hvx hvw 0 (.int .u64 t) #[.int .u64 t, .int .i64 0, .int .u64 0, .int .u64 0, .string ⟨#[]⟩] (by simp))
  go_upto_region 6 with (fail)
  clear hcX hlX hfX hcV hlV hfV
  obtain ⟨hX3, hV3, hk3⟩ := HP.out _ rfl
  clear hX2 hV hk2 HP
  generalize World.setCell _ _ _ = w3 at *
  have hcX := hX3.cell
  have hlX := hX3.lt
  have hfX := hX3.free
  have hcV := hV3.cell
  have hlV := hV3.lt
  have hfV := hV3.free
  by_cases hnl : n = l.length
  · have HD := Lib.hid (HDV.out.symm.trans (docE_end HE1.out (by rw [hnl]; exact List.drop_length)))
    have HE := Lib.hid (ent5_end hX3 hk3 hxw2 (.int .u64 0) (.int .i64 0) (.int .u64 0) (.int .u64 0) (.string ⟨#[]⟩))
    subst hnl
    go_wp2_with fail
    obtain ⟨E1, E2⟩ := HE.out _ rfl
    exact bodyPost_ret (results_ctt rfl rfl E1 Tryd.underlying42 rfl Tryd.sizeE) rfl ⟨by rw [HD.out]; rfl, E2⟩
  obtain ⟨b, r, hbr⟩ : ∃ b r, l.drop n = b :: r := by
    cases hd : l.drop n with
    | nil => have := congrArg List.length hd; rw [List.length_drop] at this; simp at this; omega
    | cons b r => exact ⟨b, r, rfl⟩
  have hnlt : n < l.length := by omega
  obtain ⟨bb, o, rfl⟩ := h.at (by omega)
  have c0 := (h.keep0 hk3).cell _ rfl n _ (bys_drop hbr)
  have HBR := Lib.hid hbr
  have n6 : ((n : Int) == (l.length : Int)) = false := by simp; omega
  have n7 : (n : Int) < (l.length : Int) := by omega
  have s1 : IntKind.i64.wrap ((n : Int) + 1) = ((n + 1 : Nat) : Int) := by rw [IntWalk.i64_in _ (by omega)]; omega
  have hb256 := b.toNat_lt
  obtain ⟨kb, hkb⟩ : ∃ kb, b.toNat = kb := ⟨_, rfl⟩
  rw [hkb] at c0 hb256
  have HKB := Lib.hid hkb
  have s2 : IntKind.i64.wrap (kb : Int) = kb := IntWalk.i64_in _ (by omega)
  have HP := Lib.hid (ent5_put hX3 hV3 hk3 hvx hvw 1 (.int .i64 kb) #[.int .u64 t, .int .i64 kb, .int .u64 0, .int .u64 0, .string ⟨#[]⟩] (by simp))
  clear hbr hkb hnl
  obtain ⟨at1, hat1⟩ : ∃ a, a = n + 1 := ⟨_, rfl⟩
  rw [← hat1] at s1
  have HA1 := Lib.hid hat1
  have hal1 : at1 ≤ l.length := by omega
  have hal0 : 0 < at1 := by omega
  clear hat1
  go_upto_region 10 with (fail)
  clear hcX hlX hfX hcV hlV hfV c0
  obtain ⟨hX4, hV4, hk4⟩ := HP.out _ rfl
  clear hX3 hV3 hk3 HP
  generalize World.setCell _ _ _ = w4 at *
  have hcX := hX4.cell
  have hlX := hX4.lt
  have hfX := hX4.free
  have hcV := hV4.cell
  have hlV := hV4.lt
  have hfV := hV4.free
  by_cases k0 : kb = 0
  · subst k0
    have HD := Lib.hid (HDV.out.symm.trans (docE_none HE1.out HBR.out HKB.out))
    have HE := Lib.hid (ent5_end hX4 hk4 hxw2 (.int .u64 t) (.int .i64 0) (.int .u64 0) (.int .u64 0) (.string ⟨#[]⟩))
    go_wp2_with fail
    obtain ⟨E1, E2⟩ := HE.out _ rfl
    exact bodyPost_ret (results_ctt rfl rfl E1 Tryd.underlying42 rfl Tryd.sizeE) rfl ⟨by rw [HD.out, ← HA1.out]; rfl, E2⟩
  by_cases k1 : kb = 1
  rotate_left
  · have HD := Lib.hid (HDV.out.symm.trans (docE_kind HE1.out HBR.out (by have := HKB.out; omega)))
    have HE := Lib.hid (ent5_end hX4 hk4 hxw2 (.int .u64 0) (.int .i64 0) (.int .u64 0) (.int .u64 0) (.string ⟨#[]⟩))
    have m1 : ((kb : Int) == 0) = false := by simp; omega
    have m2 : ((kb : Int) == 1) = false := by simp; omega
    clear k0 k1
    go_wp2_with fail
    obtain ⟨E1, E2⟩ := HE.out _ rfl
    exact bodyPost_ret (results_ctt rfl rfl E1 Tryd.underlying42 rfl Tryd.sizeE) rfl ⟨by rw [HD.out]; rfl, E2⟩
  subst k1
  clear k0
  have hsze2 := rdU_size (l.drop at1)
  have hln : (l.drop at1).length = l.length - at1 := List.length_drop
  have HU1 := fun W n' ao' c' (hn : (l.drop at1).length = n') (hR : Rb W ao' c' (l.drop at1)) => hn ▸ uintR_any ao' c' (l.drop at1) W hR
  obtain ⟨u, hu⟩ : ∃ u, rdU 0 0 (l.drop at1) = u := ⟨_, rfl⟩
  rw [hu] at HU1 hsze2
  obtain ⟨cl, m2, e2⟩ := u
  dsimp only at HU1 hsze2
  rw [hln] at hsze2
  have HUX := Lib.hid HU1
  have HLN := Lib.hid hln
  have HE2 := Lib.hid hu
  have mat1 : (at1 : Int) ≤ (l.length : Int) := by omega
  clear HU1 hu hln
  have hD := rbD2 (h.keep0 hk4) hal1
  go_upto_region 15 with (fail)
  go_cut [8, 9] (fun v8 v9 wx => v8 = .int .i64 e2 ∧ v9 = .int .i64 m2 ∧ wx = w4.setCell ⟨vb, 2, none⟩ (.int .u64 cl))
  case first =>
    clear HDV
    by_cases hca : c = at1
    · rw [if_pos hca] at hD
      subst hca
      rw [Nat.sub_self] at hD
      have HD := Lib.hid hD
      clear hD
      go_wp2_with fail
      refine (HUX.out _ _ _ _ (by have := HLN.out; omega) HD.out).mono ?_
      rintro e w' ⟨rfl, hw⟩
      obtain rfl := hw.symm
      clear hw
      go_wp2_with fail
      go_meet
      exact ⟨rfl, rfl, rfl⟩
    · rw [if_neg hca] at hD
      simp only [Option.map_some, Addr.add_lit] at hD
      have HD := Lib.hid hD
      clear hD
      go_wp2_with fail
      refine (HUX.out _ _ _ _ (by have := HLN.out; omega) HD.out).mono ?_
      rintro e w' ⟨rfl, hw⟩
      obtain rfl := hw.symm
      clear hw
      go_wp2_with fail
      go_meet
      exact ⟨rfl, rfl, rfl⟩
  case rest =>
  obtain ⟨rfl, rfl, hW⟩ := hcut
  obtain ⟨w5, hww⟩ : ∃ x, x = wc := ⟨_, rfl⟩
  subst hww
  clear hD HUX HLN
  obtain ⟨hX5, hV5, hk5⟩ := ent5_put hX4 hV4 hk4 hvx hvw 2 (.int .u64 cl) #[.int .u64 t, .int .i64 1, .int .u64 cl, .int .u64 0, .string ⟨#[]⟩] (by simp) _ hW
  clear hX4 hV4 hk4 hcX hlX hfX hcV hlV hfV hW
  have hcX := hX5.cell
  have hlX := hX5.lt
  have hfX := hX5.free
  have hcV := hV5.cell
  have hlV := hV5.lt
  have hfV := hV5.free
  by_cases he0 : e2 = 0
  rotate_left
  · have HD := Lib.hid (HDV.out.symm.trans (docE_c HE1.out HBR.out HKB.out (by rw [← HA1.out]; exact HE2.out) he0))
    have HE := Lib.hid (ent5_end hX5 hk5 hxw2 (.int .u64 0) (.int .i64 0) (.int .u64 0) (.int .u64 0) (.string ⟨#[]⟩))
    have n5 : ((e2 : Int) == 0) = false := by simp; omega
    clear he0
    go_wp2_with fail
    obtain ⟨E1, E2⟩ := HE.out _ rfl
    exact bodyPost_ret (results_ctt rfl rfl E1 Tryd.underlying42 rfl Tryd.sizeE) rfl ⟨by rw [HD.out]; rfl, E2⟩
  subst he0
  have sat2 : IntKind.i64.wrap ((at1 : Int) + (m2 : Int)) = ((at1 + m2 : Nat) : Int) := by rw [IntWalk.i64_in _ (by omega)]; omega
  obtain ⟨at2, hat2⟩ : ∃ a, a = at1 + m2 := ⟨_, rfl⟩
  rw [← hat2] at sat2
  have Hat2 := Lib.hid hat2
  have haat2 : at2 ≤ l.length := by omega
  have hbat2 : 0 < at2 := by omega
  clear hat2
  have hsze3 := rdU_size (l.drop at2)
  have hln : (l.drop at2).length = l.length - at2 := List.length_drop
  have HU1 := fun W n' ao' c' (hn : (l.drop at2).length = n') (hR : Rb W ao' c' (l.drop at2)) => hn ▸ uintR_any ao' c' (l.drop at2) W hR
  obtain ⟨u, hu⟩ : ∃ u, rdU 0 0 (l.drop at2) = u := ⟨_, rfl⟩
  rw [hu] at HU1 hsze3
  obtain ⟨sq, m3, e3⟩ := u
  dsimp only at HU1 hsze3
  rw [hln] at hsze3
  have HUX := Lib.hid HU1
  have HLN := Lib.hid hln
  have HE3 := Lib.hid hu
  have mat2 : (at2 : Int) ≤ (l.length : Int) := by omega
  clear HU1 hu hln
  have hD := rbD2 (h.keep0 hk5) haat2
  go_upto_region 19 with (fail)
  go_cut [8, 9] (fun v8 v9 wx => v8 = .int .i64 e3 ∧ v9 = .int .i64 m3 ∧ wx = w5.setCell ⟨vb, 3, none⟩ (.int .u64 sq))
  case first =>
    clear HDV
    by_cases hca : c = at2
    · rw [if_pos hca] at hD
      subst hca
      rw [Nat.sub_self] at hD
      have HD := Lib.hid hD
      clear hD
      go_wp2_with fail
      refine (HUX.out _ _ _ _ (by have := HLN.out; omega) HD.out).mono ?_
      rintro e w' ⟨rfl, hw⟩
      obtain rfl := hw.symm
      clear hw
      go_wp2_with fail
      go_meet
      exact ⟨rfl, rfl, rfl⟩
    · rw [if_neg hca] at hD
      simp only [Option.map_some, Addr.add_lit] at hD
      have HD := Lib.hid hD
      clear hD
      go_wp2_with fail
      refine (HUX.out _ _ _ _ (by have := HLN.out; omega) HD.out).mono ?_
      rintro e w' ⟨rfl, hw⟩
      obtain rfl := hw.symm
      clear hw
      go_wp2_with fail
      go_meet
      exact ⟨rfl, rfl, rfl⟩
  case rest =>
  obtain ⟨rfl, rfl, hW⟩ := hcut
  obtain ⟨w6, hww⟩ : ∃ x, x = wc := ⟨_, rfl⟩
  subst hww
  clear hD HUX HLN
  obtain ⟨hX6, hV6, hk6⟩ := ent5_put hX5 hV5 hk5 hvx hvw 3 (.int .u64 sq) #[.int .u64 t, .int .i64 1, .int .u64 cl, .int .u64 sq, .string ⟨#[]⟩] (by simp) _ hW
  clear hX5 hV5 hk5 hcX hlX hfX hcV hlV hfV hW
  have hcX := hX6.cell
  have hlX := hX6.lt
  have hfX := hX6.free
  have hcV := hV6.cell
  have hlV := hV6.lt
  have hfV := hV6.free
  by_cases he0 : e3 = 0
  rotate_left
  · have HD := Lib.hid (HDV.out.symm.trans (docE_s HE1.out HBR.out HKB.out (by rw [← HA1.out]; exact HE2.out) (by rw [← HA1.out, ← Hat2.out]; exact HE3.out) he0))
    have HE := Lib.hid (ent5_end hX6 hk6 hxw2 (.int .u64 0) (.int .i64 0) (.int .u64 0) (.int .u64 0) (.string ⟨#[]⟩))
    have n5 : ((e3 : Int) == 0) = false := by simp; omega
    clear he0
    go_wp2_with fail
    obtain ⟨E1, E2⟩ := HE.out _ rfl
    exact bodyPost_ret (results_ctt rfl rfl E1 Tryd.underlying42 rfl Tryd.sizeE) rfl ⟨by rw [HD.out]; rfl, E2⟩
  subst he0
  have sat3 : IntKind.i64.wrap ((at2 : Int) + (m3 : Int)) = ((at2 + m3 : Nat) : Int) := by rw [IntWalk.i64_in _ (by omega)]; omega
  obtain ⟨at3, hat3⟩ : ∃ a, a = at2 + m3 := ⟨_, rfl⟩
  rw [← hat3] at sat3
  have Hat3 := Lib.hid hat3
  have haat3 : at3 ≤ l.length := by omega
  have hbat3 : 0 < at3 := by omega
  clear hat3
  have h6 := h.keep0 hk6
  have hln : (l.drop at3).length = l.length - at3 := List.length_drop
  obtain ⟨q, hq⟩ : ∃ q : Bool, q = twice (l.drop at3) := ⟨_, rfl⟩
  have HQ := Lib.hid hq
  clear hq
  obtain ⟨at4, hat4⟩ : ∃ a, a = at3 + 1 := ⟨_, rfl⟩
  obtain ⟨at5, hat5⟩ : ∃ a, a = at3 + 2 := ⟨_, rfl⟩
  have p2 : IntKind.i64.wrap ((at3 : Int) + 2) = (at5 : Int) := by rw [IntWalk.i64_in _ (by omega)]; omega
  have p1 : IntKind.i64.wrap ((at3 : Int) + 1) = (at4 : Int) := by rw [IntWalk.i64_in _ (by omega)]; omega
  go_upto_region 23 with (fail)
  go_cut [95] (fun v wx => v = .bool q ∧ wx = w6)
  case first =>
    clear HDV
    by_cases hlt : at3 + 2 ≤ l.length
    · obtain ⟨a, b2, r2, hab⟩ : ∃ a b2 r2, l.drop at3 = a :: b2 :: r2 := by
        cases hd : l.drop at3 with
        | nil => rw [hd] at hln; simp at hln; omega
        | cons a r2 => cases r2 with
          | nil => rw [hd] at hln; simp at hln; omega
          | cons b2 r2 => exact ⟨a, b2, r2, rfl⟩
      have ca := h6.cell _ rfl at3 _ (bys_drop hab)
      have cb := h6.cell _ rfl (at3 + 1) _ (bys_drop (drop_next hab))
      rw [← hat4] at cb
      have hqv : q = (decide (128 ≤ a.toNat) && decide (128 ≤ b2.toNat)) := by rw [HQ.out, hab]; rfl
      have HQV := Lib.hid hqv
      have x1 : (at5 : Int) ≤ (l.length : Int) := by omega
      have x2 : (at3 : Int) < (l.length : Int) := by omega
      have x3 : (at4 : Int) < (l.length : Int) := by omega
      clear hab hqv hlt hln hat4 hat5
      by_cases ha : 128 ≤ a.toNat
      · have y1 : (128 : Int) ≤ (a.toNat : Int) := by omega
        by_cases hb : 128 ≤ b2.toNat
        · have y2 : (128 : Int) ≤ (b2.toNat : Int) := by omega
          have hqq := Lib.hid (show q = true by rw [HQV.out]; simp [ha, hb])
          go_wp2_with fail
          go_meet
          exact ⟨by rw [hqq.out], rfl⟩
        · have y2 : ¬ ((128 : Int) ≤ (b2.toNat : Int)) := by omega
          have hqq := Lib.hid (show q = false by rw [HQV.out]; simp [hb])
          go_wp2_with fail
          go_meet
          exact ⟨by rw [hqq.out], rfl⟩
      · have y1 : ¬ ((128 : Int) ≤ (a.toNat : Int)) := by omega
        have hqq := Lib.hid (show q = false by rw [HQV.out]; simp [ha])
        go_wp2_with fail
        go_meet
        exact ⟨by rw [hqq.out], rfl⟩
    · have hqq : q = false := by
        rw [HQ.out]
        cases hd : l.drop at3 with
        | nil => rfl
        | cons a r2 => cases r2 with
          | nil => rfl
          | cons b2 r2 => rw [hd] at hln; simp at hln; omega
      have HQQ := Lib.hid hqq
      have x1 : ¬ ((at5 : Int) ≤ (l.length : Int)) := by omega
      clear hlt hqq hln hat4 hat5
      go_wp2_with fail
      go_meet
      exact ⟨by rw [HQQ.out], rfl⟩
  case rest =>
  obtain ⟨rfl, hww⟩ := hcut
  obtain rfl := hww.symm
  clear hww p1 p2 h6 hat4 hat5
  have hqo := HQ.out
  have HTT := Lib.hid (docE_t (x := ([] : List UInt8)) (m3 := 0) (e := 20) HE1.out HBR.out HKB.out (by rw [← HA1.out]; exact HE2.out) (by rw [← HA1.out, ← Hat2.out]; exact HE3.out))
  have hdS : docS (l.drop at3) = if twice (l.drop at3) = true then bad [] 20 else rdT (l.drop at3) := rfl
  rw [← hqo] at hdS
  clear hqo HQ
  cases q with
  | true =>
    rw [if_pos rfl] at hdS
    have HD := Lib.hid (HDV.out.symm.trans (HTT.out (by rw [← HA1.out, ← Hat2.out, ← Hat3.out]; exact hdS) (by decide)))
    have HE := Lib.hid (ent5_end hX6 hk6 hxw2 (.int .u64 0) (.int .i64 0) (.int .u64 0) (.int .u64 0) (.string ⟨#[]⟩))
    clear hdS HTT
    go_wp2_with fail
    obtain ⟨E1, E2⟩ := HE.out _ rfl
    exact bodyPost_ret (results_ctt rfl rfl E1 Tryd.underlying42 rfl Tryd.sizeE) rfl ⟨by rw [HD.out]; rfl, E2⟩
  | false =>
    rw [if_neg (by simp)] at hdS
    clear HTT
    have hszT : (rdT (l.drop at3)).2.1 ≤ l.length - at3 := by
      rw [← hln]
      have := rdU_size (l.drop at3)
      unfold rdT
      split
      · simp
      split
      · simp
      split
      · simp
      · dsimp only; omega
    have HU1 := fun W n' ao' c' (hn : (l.drop at3).length = n') (hR : Rb W ao' c' (l.drop at3)) => hn ▸ textR_any ao' c' (l.drop at3) W hR
    obtain ⟨u, hu⟩ : ∃ u, rdT (l.drop at3) = u := ⟨_, rfl⟩
    rw [hu] at HU1 hszT hdS
    obtain ⟨x, m4, e4⟩ := u
    dsimp only at HU1 hszT
    have HUX := Lib.hid HU1
    have HLN := Lib.hid hln
    have HDS := Lib.hid hdS
    have mat3 : (at3 : Int) ≤ (l.length : Int) := by omega
    clear HU1 hu hln hdS
    have hD := rbD2 (h.keep0 hk6) haat3
    go_upto_region 25 with (fail)
    go_cut [8, 9] (fun v8 v9 wx => v8 = .int .i64 e4 ∧ v9 = .int .i64 m4 ∧ wx = w6.setCell ⟨vb, 4, none⟩ (.string ⟨x.toArray⟩))
    case first =>
      clear HDV
      by_cases hca : c = at3
      · rw [if_pos hca] at hD
        subst hca
        rw [Nat.sub_self] at hD
        have HD := Lib.hid hD
        clear hD
        go_wp2_with fail
        refine (HUX.out _ _ _ _ (by have := HLN.out; omega) HD.out).mono ?_
        rintro e w' ⟨rfl, hw⟩
        obtain rfl := hw.symm
        clear hw
        go_wp2_with fail
        go_meet
        exact ⟨rfl, rfl, rfl⟩
      · rw [if_neg hca] at hD
        simp only [Option.map_some, Addr.add_lit] at hD
        have HD := Lib.hid hD
        clear hD
        go_wp2_with fail
        refine (HUX.out _ _ _ _ (by have := HLN.out; omega) HD.out).mono ?_
        rintro e w' ⟨rfl, hw⟩
        obtain rfl := hw.symm
        clear hw
        go_wp2_with fail
        go_meet
        exact ⟨rfl, rfl, rfl⟩
    case rest =>
    obtain ⟨rfl, rfl, hW⟩ := hcut
    clear hD HUX HLN
    obtain ⟨hX7, hV7, hk7⟩ := ent5_put hX6 hV6 hk6 hvx hvw 4 (.string ⟨x.toArray⟩) #[.int .u64 t, .int .i64 1, .int .u64 cl, .int .u64 sq, .string ⟨x.toArray⟩] (by simp) _ hW
    clear hX6 hV6 hk6 hcX hlX hfX hcV hlV hfV hW
    have hcX := hX7.cell
    have hlX := hX7.lt
    have hfX := hX7.free
    have hcV := hV7.cell
    have hlV := hV7.lt
    have hfV := hV7.free
    by_cases he0 : e4 = 0
    rotate_left
    · have HD := Lib.hid (HDV.out.symm.trans (docE_t HE1.out HBR.out HKB.out (by rw [← HA1.out]; exact HE2.out) (by rw [← HA1.out, ← Hat2.out]; exact HE3.out) (by rw [← HA1.out, ← Hat2.out, ← Hat3.out]; exact HDS.out) he0))
      have HE := Lib.hid (ent5_end hX7 hk7 hxw2 (.int .u64 0) (.int .i64 0) (.int .u64 0) (.int .u64 0) (.string ⟨#[]⟩))
      have n5 : ((e4 : Int) == 0) = false := by simp; omega
      clear he0
      go_wp2_with fail
      obtain ⟨E1, E2⟩ := HE.out _ rfl
      exact bodyPost_ret (results_ctt rfl rfl E1 Tryd.underlying42 rfl Tryd.sizeE) rfl ⟨by rw [HD.out]; rfl, E2⟩
    subst he0
    have HD := Lib.hid (HDV.out.symm.trans (docE_ok HE1.out HBR.out HKB.out (by rw [← HA1.out]; exact HE2.out) (by rw [← HA1.out, ← Hat2.out]; exact HE3.out) (by rw [← HA1.out, ← Hat2.out, ← Hat3.out]; exact HDS.out)))
    have HE := Lib.hid (ent5_end hX7 hk7 hxw2 (.int .u64 t) (.int .i64 1) (.int .u64 cl) (.int .u64 sq) (.string ⟨x.toArray⟩))
    have p4 : IntKind.i64.wrap ((at3 : Int) + (m4 : Int)) = ((at3 + m4 : Nat) : Int) := by rw [IntWalk.i64_in _ (by omega)]; omega
    go_wp2_with fail
    obtain ⟨E1, E2⟩ := HE.out _ rfl
    exact bodyPost_ret (results_ctt rfl rfl E1 Tryd.underlying42 rfl Tryd.sizeE) rfl ⟨by rw [HD.out, ← HA1.out, ← Hat2.out, ← Hat3.out]; rfl, E2⟩
end Go.Proofs.YtcaahgjepkcenaaDoor
