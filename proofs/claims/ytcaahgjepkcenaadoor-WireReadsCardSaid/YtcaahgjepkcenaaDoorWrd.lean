/- The document's value. -/
import Derived.Test.YtcaahgjepkcenaaDoorWrc
import Derived.Test.YtcaahgjepkcenaaDoorWg

namespace Go.Proofs.YtcaahgjepkcenaaDoor
open Go.RowKit Go.Lib

theorem rbD {w : World} {ao : Option Addr} {c : Nat} {l : List UInt8} (h : Rb w ao c l) {k : Nat} (hk : k ≤ l.length) : Rb w (if c = k then ao else Option.map (fun x => x.add k) ao) (c - k) (l.drop k) := by
  have hD := h.drop hk
  simp only [Nat.mul_one] at hD
  have hbd : (bys l).drop k = bys (l.drop k) := by unfold bys; rw [List.map_drop]
  rw [hbd] at hD
  unfold Rb
  rw [List.length_drop]
  exact hD
theorem v_end {w0 w : World} {xb : Nat} {x0 x1 x2 : Value} (hX : Blk w xb 95 #[x0, x1, x2]) (hk : Keeps [] w0 w) (hx : w0.heap.size ≤ xb) (a b c : Value) :
    ∀ W, W = ((w.setCell ⟨xb, 0, none⟩ a).setCell ⟨xb, 1, none⟩ b).setCell ⟨xb, 2, none⟩ c → Blk W xb 95 #[a, b, c] ∧ Keeps [] w0 W := by
  rintro W rfl
  exact ⟨(((hX.put 0 a).put 1 b).put 2 c).eq (by simp), ((hk.set (p := ⟨xb, 0, none⟩) (.inr hx) a).set (p := ⟨xb, 1, none⟩) (.inr hx) b).set (p := ⟨xb, 2, none⟩) (.inr hx) c⟩
theorem docV_long (b : UInt8) (t : List UInt8) (h : 3 < b.toNat) : docV (b :: t) = bad V0 20 := by
  unfold docV
  dsimp only
  rw [if_neg (by omega), if_neg (by omega), if_neg (by omega), if_neg (by omega)]
theorem docV_0 (b : UInt8) (t : List UInt8) (h : b.toNat = 0) : docV (b :: t) = (⟨0, 0, ⟨#[]⟩⟩, 1, 0) := by unfold docV; dsimp only; rw [if_pos h]
theorem docV_1 (b : UInt8) (t : List UInt8) (h : b.toNat = 1) : docV (b :: t) = match t with
      | [] => bad V0 22
      | c :: _ => if 1 < c.toNat then bad V0 20 else (⟨1, c.toNat, ⟨#[]⟩⟩, 2, 0) := by unfold docV; dsimp only; rw [if_neg (by omega), if_pos h]; cases t <;> rfl
theorem docV_2 (b : UInt8) (t : List UInt8) (h : b.toNat = 2) : docV (b :: t) = if (docI t).2.2 ≠ 0 then bad V0 (docI t).2.2 else (⟨2, (docI t).1, ⟨#[]⟩⟩, 1 + (docI t).2.1, 0) := by unfold docV; dsimp only; rw [if_neg (by omega), if_neg (by omega), if_pos h]; rfl
theorem docV_3 (b : UInt8) (t : List UInt8) (h : b.toNat = 3) : docV (b :: t) = match t with
      | [] => bad V0 22
      | c :: r => if 40 < c.toNat then bad V0 20 else if (0 : UInt8) ∈ r.take c.toNat then bad V0 20 else if (docT 40 (c :: r)).2.2 ≠ 0 then bad V0 (docT 40 (c :: r)).2.2 else (⟨3, 0, ⟨(docT 40 (c :: r)).1.toArray⟩⟩, 1 + (docT 40 (c :: r)).2.1, 0) := by
  unfold docV
  dsimp only
  rw [if_neg (by omega), if_neg (by omega), if_neg (by omega), if_pos h]
  cases t with
  | nil => rfl
  | cons c r =>
    dsimp only
    by_cases hc : 40 < c.toNat
    · rw [if_pos hc, if_pos hc]
    rw [if_neg hc, if_neg hc]
    by_cases hz : (0 : UInt8) ∈ r.take c.toNat
    · rw [if_pos hz, if_pos hz]
    rw [if_neg hz, if_neg hz]
    have hu := rdU_one c r (by omega)
    by_cases hs : r.length < c.toNat
    · have hT : docT 40 (c :: r) = ([], 0, 22) := by
        unfold docT
        rw [hu]
        dsimp only
        rw [if_neg (by simp), if_neg hc, if_pos (by simpa using hs)]
      rw [if_pos hs, hT]
      rfl
    · have hT : docT 40 (c :: r) = (r.take c.toNat, 1 + c.toNat, 0) := by
        unfold docT
        rw [hu]
        dsimp only
        rw [if_neg (by simp), if_neg hc, if_neg (by simpa using hs)]
        rfl
      rw [if_neg hs, hT]
      dsimp only
      rw [if_neg (by simp)]
      congr 2
      omega

set_option maxRecDepth 100000 in
set_option maxHeartbeats 600000 in
theorem valueR_any (ao : Option Addr) (c : Nat) (l : List UInt8) (w : World) (h : Rb w ao c l) (hmil : l.length ≤ 1000000) :
    Calls Tryd.prog 60 #[.slice ao l.length c] w fun e w' => e = .returned (.tuple #[.agg (docV l).1.cells, .int .i64 (docV l).2.1, .int .i64 (docV l).2.2]) ∧ Keeps [] w w' := by
  have hX := Blk.fresh w 95 #[.int .i64 0, .int .i64 0, .string ⟨#[]⟩]
  have hkx := (Keeps.refl [] w).alloc (.cells #[.int .i64 0, .int .i64 0, .string ⟨#[]⟩] 95)
  have h1 := h.keep0 hkx
  have hmx := h.most
  have hcp := h.cap
  unfold maxLen at hmx
  obtain ⟨dv, hdv⟩ : ∃ dv, docV l = dv := ⟨_, rfl⟩
  rw [hdv]
  have HDV := Lib.hid hdv
  clear hdv
  go_enter Tryd.func60, Tryd.ntmps60
  go_upto_region 1 with (fail)
  generalize World.alloc w _ = w1 at *
  have hxw : w.heap.size ≤ w.heap.size := Nat.le_refl _
  generalize hxe : w.heap.size = xb at *
  rw [← hxe] at hxw
  have hxw2 : w.heap.size ≤ xb := by omega
  clear hxw
  by_cases hl0 : l.length = 0
  · have hl : l = [] := List.eq_nil_of_length_eq_zero hl0
    have hd : dv = bad V0 22 := by rw [← HDV.out, hl]; rfl
    subst hd
    have hcX := hX.cell
    have hlX := hX.lt
    have hfX := hX.free
    have HE := Lib.hid (v_end hX hkx hxw2 (.int .i64 0) (.int .i64 0) (.string ⟨#[]⟩))
    clear hl HDV
    go_wp2_with fail
    obtain ⟨E1, E2⟩ := HE.out _ rfl
    exact bodyPost_ret (results_ctt rfl rfl E1 Tryd.underlying95 rfl Tryd.sizeV) rfl ⟨rfl, E2⟩
  obtain ⟨b, t, hbt⟩ : ∃ b t, l = b :: t := by cases l with | nil => simp at hl0 | cons b t => exact ⟨b, t, rfl⟩
  have hpos : 0 < l.length := by omega
  obtain ⟨bb, o, rfl⟩ := h1.at (by omega)
  have c0 := h1.cell _ rfl 0 _ (bys_at hpos)
  have e0 : l[0] = b := by simp [hbt]
  rw [e0] at c0
  simp only [Nat.add_zero] at c0
  have ht : l.drop 1 = t := by rw [hbt]; rfl
  rw [hbt] at HDV
  have HBT := Lib.hid hbt
  have HT := Lib.hid ht
  have hb256 := b.toNat_lt
  obtain ⟨kb, hkb⟩ : ∃ kb, kb = b.toNat := ⟨_, rfl⟩
  rw [← hkb] at c0 hb256
  have HKB := Lib.hid hkb
  clear hbt e0 ht hkb
  have s1 : IntKind.i64.wrap (kb : Int) = kb := IntWalk.i64_in _ (by omega)
  have n0 : (0 : Int) < (l.length : Int) := by omega
  go_upto_region 4 with (fail)
  have hV := Blk.fresh w1 95 #[.int .i64 kb, .int .i64 0, .string ⟨#[]⟩]
  have hkA := (Keeps.refl [] w1).alloc (.cells #[.int .i64 kb, .int .i64 0, .string ⟨#[]⟩] 95)
  have hX2 := hX.keep hkA (by simp)
  have hk2 := hkx.trans hkA
  have h2 := h1.keep0 hkA
  have c0' := hkA.cellSome c0 (by simp)
  have hvx : w1.heap.size ≠ xb := by have := hX.lt; omega
  have hvw : w.heap.size ≤ w1.heap.size := hkx.size
  clear hX hkx h1 c0 hkA
  generalize World.alloc w1 _ = w2 at *
  generalize w1.heap.size = vb at *
  have hcX := hX2.cell
  have hlX := hX2.lt
  have hfX := hX2.free
  have hcV := hV.cell
  have hlV := hV.lt
  have hfV := hV.free
  have HBAD := Lib.hid (v_end hX2 hk2 hxw2 (.int .i64 0) (.int .i64 0) (.string ⟨#[]⟩))
  by_cases k0 : kb = 0
  · subst k0
    have hd := Lib.hid (show dv = (⟨0, 0, ⟨#[]⟩⟩, 1, 0) from HDV.out.symm.trans (docV_0 b t HKB.out.symm))
    go_wp2_with fail
    obtain ⟨E1, E2⟩ := HBAD.out _ rfl
    exact bodyPost_ret (results_ctt rfl rfl E1 Tryd.underlying95 rfl Tryd.sizeV) rfl ⟨by rw [hd.out]; rfl, E2⟩
  by_cases k1 : kb = 1
  · subst k1
    have hd := HDV.out.symm.trans (docV_1 b t HKB.out.symm)
    by_cases hl1 : l.length = 1
    · have htn : t = [] := by
        have := HBT.out
        cases t with
        | nil => rfl
        | cons x y => rw [this] at hl1; simp at hl1
      rw [htn] at hd
      have HD := Lib.hid (show dv = bad V0 22 from hd)
      clear hd htn
      go_wp2_with fail
      obtain ⟨E1, E2⟩ := HBAD.out _ rfl
      exact bodyPost_ret (results_ctt rfl rfl E1 Tryd.underlying95 rfl Tryd.sizeV) rfl ⟨by rw [HD.out]; rfl, E2⟩
    have hl2 : 1 < l.length := by omega
    obtain ⟨x, r, hxr⟩ : ∃ x r, t = x :: r := by
      have := HBT.out
      cases t with
      | nil => rw [this] at hl2; simp at hl2
      | cons x y => exact ⟨x, y, rfl⟩
    have c1 := h2.cell _ rfl 1 _ (bys_at hl2)
    have e1 : l[1] = x := by simp [HBT.out, hxr]
    rw [e1] at c1
    rw [hxr] at hd
    dsimp only at hd
    have hx256 := x.toNat_lt
    generalize x.toNat = kx at *
    have n2 : ¬ ((l.length : Int) < 2) := by omega
    have n3 : (1 : Int) < (l.length : Int) := by omega
    have s2 : IntKind.i64.wrap (kx : Int) = kx := IntWalk.i64_in _ (by omega)
    clear hxr e1
    by_cases hx1 : 1 < kx
    · rw [if_pos hx1] at hd
      have HD := Lib.hid hd
      have n4 : (1 : Int) < (kx : Int) := by omega
      clear hd
      go_wp2_with fail
      obtain ⟨E1, E2⟩ := HBAD.out _ rfl
      exact bodyPost_ret (results_ctt rfl rfl E1 Tryd.underlying95 rfl Tryd.sizeV) rfl ⟨by rw [HD.out]; rfl, E2⟩
    · rw [if_neg hx1] at hd
      have HD := Lib.hid hd
      have n4 : ¬ ((1 : Int) < (kx : Int)) := by omega
      clear hd
      have HE := Lib.hid (v_end (hX2.other (p := ⟨vb, 1, none⟩) (fun e => hvx e.symm) (.int .i64 kx)) (hk2.set (p := ⟨vb, 1, none⟩) (.inr hvw) (.int .i64 kx)) hxw2 (.int .i64 1) (.int .i64 kx) (.string ⟨#[]⟩))
      go_wp2_with fail
      obtain ⟨E1, E2⟩ := HE.out _ rfl
      exact bodyPost_ret (results_ctt rfl rfl E1 Tryd.underlying95 rfl Tryd.sizeV) rfl ⟨by rw [HD.out]; rfl, E2⟩
  by_cases k2 : kb = 2
  · subst k2
    have hd := HDV.out.symm.trans (docV_2 b t HKB.out.symm)
    have hR := rbD h2 hpos
    rw [HT.out] at hR
    have h3 : t.length = l.length - 1 := by rw [← HT.out, List.length_drop]
    have hsz : (docI t).2.1 + 1 ≤ l.length := by
      have h4 := rdU_size t
      unfold docI
      dsimp only
      omega
    clear h3
    by_cases ie0 : (docI t).2.2 = 0
    · rw [if_neg (show ¬ ((docI t).2.2 ≠ 0) from fun h => h ie0)] at hd
      have HU0 := fun n' ao' c' (hn : t.length = n') (hR : Rb w2 ao' c' t) => hn ▸ intR_any ao' c' t w2 hR
      have hln : t.length = l.length - 1 := by rw [← HT.out, List.length_drop]
      rw [ie0] at HU0
      have HLN := Lib.hid hln
      have HU := Lib.hid HU0
      clear HU0
      generalize (docI t).1 = iv at *
      generalize (docI t).2.1 = im at *
      have HD := Lib.hid hd
      have q3 : IntKind.i64.wrap (1 + (im : Int)) = 1 + im := IntWalk.i64_in _ (by omega)
      clear hd ie0 hln
      have HE := Lib.hid (v_end (hX2.other (p := ⟨vb, 1, none⟩) (fun e => hvx e.symm) (.int .i64 iv)) (hk2.set (p := ⟨vb, 1, none⟩) (.inr hvw) (.int .i64 iv)) hxw2 (.int .i64 2) (.int .i64 iv) (.string ⟨#[]⟩))
      by_cases hc1 : c = 1
      · subst hc1
        rw [if_pos rfl] at hR
        change Rb w2 _ 0 t at hR
        have HLC := Lib.hid hcp
        have HR := Lib.hid hR
        clear hR
        go_wp2_with fail
        refine (HU.out _ _ _ (by have := HLN.out; omega) HR.out).mono ?_
        rintro e w' ⟨rfl, hw⟩
        obtain rfl := hw.symm
        clear hw
        go_wp2_with fail
        obtain ⟨E1, E2⟩ := HE.out _ rfl
        exact bodyPost_ret (results_ctt rfl rfl E1 Tryd.underlying95 rfl Tryd.sizeV) rfl ⟨by rw [HD.out]; rfl, E2⟩
      · rw [if_neg hc1] at hR
        simp only [Option.map_some, Addr.add_lit] at hR
        have HR := Lib.hid hR
        clear hR
        go_wp2_with fail
        refine (HU.out _ _ _ (by have := HLN.out; omega) HR.out).mono ?_
        rintro e w' ⟨rfl, hw⟩
        obtain rfl := hw.symm
        clear hw
        go_wp2_with fail
        obtain ⟨E1, E2⟩ := HE.out _ rfl
        exact bodyPost_ret (results_ctt rfl rfl E1 Tryd.underlying95 rfl Tryd.sizeV) rfl ⟨by rw [HD.out]; rfl, E2⟩
    · rw [if_pos ie0] at hd
      have HU0 := fun n' ao' c' (hn : t.length = n') (hR : Rb w2 ao' c' t) => hn ▸ intR_any ao' c' t w2 hR
      have hln : t.length = l.length - 1 := by rw [← HT.out, List.length_drop]
      have HLN := Lib.hid hln
      have HU := Lib.hid HU0
      clear HU0
      generalize (docI t).1 = iv at *
      generalize (docI t).2.1 = im at *
      generalize (docI t).2.2 = ie at *
      have n5 : ((ie : Int) == 0) = false := by simp; omega
      have HD := Lib.hid hd
      clear hd ie0 hln
      have HE := Lib.hid (v_end (hX2.other (p := ⟨vb, 1, none⟩) (fun e => hvx e.symm) (.int .i64 iv)) (hk2.set (p := ⟨vb, 1, none⟩) (.inr hvw) (.int .i64 iv)) hxw2 (.int .i64 0) (.int .i64 0) (.string ⟨#[]⟩))
      by_cases hc1 : c = 1
      · subst hc1
        rw [if_pos rfl] at hR
        change Rb w2 _ 0 t at hR
        have HLC := Lib.hid hcp
        have HR := Lib.hid hR
        clear hR
        go_wp2_with fail
        refine (HU.out _ _ _ (by have := HLN.out; omega) HR.out).mono ?_
        rintro e w' ⟨rfl, hw⟩
        obtain rfl := hw.symm
        clear hw
        go_wp2_with fail
        obtain ⟨E1, E2⟩ := HE.out _ rfl
        exact bodyPost_ret (results_ctt rfl rfl E1 Tryd.underlying95 rfl Tryd.sizeV) rfl ⟨by rw [HD.out]; rfl, E2⟩
      · rw [if_neg hc1] at hR
        simp only [Option.map_some, Addr.add_lit] at hR
        have HR := Lib.hid hR
        clear hR
        go_wp2_with fail
        refine (HU.out _ _ _ (by have := HLN.out; omega) HR.out).mono ?_
        rintro e w' ⟨rfl, hw⟩
        obtain rfl := hw.symm
        clear hw
        go_wp2_with fail
        obtain ⟨E1, E2⟩ := HE.out _ rfl
        exact bodyPost_ret (results_ctt rfl rfl E1 Tryd.underlying95 rfl Tryd.sizeV) rfl ⟨by rw [HD.out]; rfl, E2⟩
  by_cases k3 : kb = 3
  · subst k3
    have hd := HDV.out.symm.trans (docV_3 b t HKB.out.symm)
    have hR := rbD h2 hpos
    rw [HT.out] at hR
    have h3 : t.length = l.length - 1 := by rw [← HT.out, List.length_drop]
    have HLN := Lib.hid h3
    by_cases hl1 : l.length = 1
    · have htn : t = [] := List.eq_nil_of_length_eq_zero (by omega)
      rw [htn] at hd
      have HD := Lib.hid (show dv = bad V0 22 from hd)
      have hT : docT 40 t = ([], 0, 22) := by rw [htn]; rfl
      have HU0 := fun n' ao' c' (hn : t.length = n') (hR : Rb w2 ao' c' t) => hn ▸ textD_any ao' c' t 40 w2 hR (by decide)
      rw [hT] at HU0
      dsimp only at HU0
      have HU := Lib.hid HU0
      clear hd hT HU0 h3 htn
      have HE := Lib.hid (v_end (hX2.other (p := ⟨vb, 2, none⟩) (fun e => hvx e.symm) (.string ⟨#[]⟩)) (hk2.set (p := ⟨vb, 2, none⟩) (.inr hvw) (.string ⟨#[]⟩)) hxw2 (.int .i64 0) (.int .i64 0) (.string ⟨#[]⟩))
      by_cases hc1 : c = 1
      · subst hc1
        rw [if_pos rfl] at hR
        change Rb w2 _ 0 t at hR
        have HR := Lib.hid hR
        clear hR
        go_wp2_with fail
        refine (HU.out _ _ _ (by have := HLN.out; omega) HR.out).mono ?_
        rintro e w' ⟨rfl, hw⟩
        obtain rfl := hw.symm
        clear hw
        go_wp2_with fail
        obtain ⟨E1, E2⟩ := HE.out _ rfl
        exact bodyPost_ret (results_ctt rfl rfl E1 Tryd.underlying95 rfl Tryd.sizeV) rfl ⟨by rw [HD.out]; rfl, E2⟩
      · rw [if_neg hc1] at hR
        simp only [Option.map_some, Addr.add_lit] at hR
        have HR := Lib.hid hR
        clear hR
        go_wp2_with fail
        refine (HU.out _ _ _ (by have := HLN.out; omega) HR.out).mono ?_
        rintro e w' ⟨rfl, hw⟩
        obtain rfl := hw.symm
        clear hw
        go_wp2_with fail
        obtain ⟨E1, E2⟩ := HE.out _ rfl
        exact bodyPost_ret (results_ctt rfl rfl E1 Tryd.underlying95 rfl Tryd.sizeV) rfl ⟨by rw [HD.out]; rfl, E2⟩
    have hl2 : 1 < l.length := by omega
    obtain ⟨x, r, hxr⟩ : ∃ x r, t = x :: r := by
      cases t with
      | nil => simp at h3; omega
      | cons x y => exact ⟨x, y, rfl⟩
    have c1 := h2.cell _ rfl 1 _ (bys_at hl2)
    have e1 : l[1] = x := by simp [HBT.out, hxr]
    rw [e1] at c1
    rw [hxr] at hd
    dsimp only at hd
    have hx256 := x.toNat_lt
    have hdr : l.drop 2 = r := by rw [HBT.out, hxr]; rfl
    have HDR := Lib.hid hdr
    have HXR := Lib.hid hxr
    rw [← hxr] at hd
    generalize x.toNat = kx at *
    have n3 : (1 : Int) < (l.length : Int) := by omega
    have s2 : IntKind.i64.wrap (kx : Int) = kx := IntWalk.i64_in _ (by omega)
    have s3 : IntKind.i64.wrap (2 + (kx : Int)) = 2 + kx := IntWalk.i64_in _ (by omega)
    have hc1 : ¬ (c = 1) := by omega
    rw [if_neg hc1] at hR
    simp only [Option.map_some, Addr.add_lit] at hR
    have HR := Lib.hid hR
    clear hxr e1 hR hdr h3
    by_cases hx1 : 40 < kx
    · rw [if_pos hx1] at hd
      have HD := Lib.hid hd
      have n4 : (40 : Int) < (kx : Int) := by omega
      clear hd
      go_wp2_with fail
      obtain ⟨E1, E2⟩ := HBAD.out _ rfl
      exact bodyPost_ret (results_ctt rfl rfl E1 Tryd.underlying95 rfl Tryd.sizeV) rfl ⟨by rw [HD.out]; rfl, E2⟩
    rw [if_neg hx1] at hd
    have n4 : ¬ ((40 : Int) < (kx : Int)) := by omega
    obtain ⟨q, hq⟩ : ∃ q : Bool, q = decide ((0 : UInt8) ∈ r.take kx) := ⟨_, rfl⟩
    have HQ := Lib.hid hq
    clear hq
    have HD := Lib.hid hd
    clear hd
    go_upto_region 20 with (fail)
    go_cut [77] (fun v wx => v = .bool q ∧ wx = w2)
    case first =>
      have hR2 := rbD h2 (k := 2) hl2
      rw [HDR.out] at hR2
      have hrl : r.length = l.length - 2 := by rw [← HDR.out, List.length_drop]
      by_cases hc2 : c = 2
      · subst hc2
        rw [if_pos rfl] at hR2
        change Rb w2 _ 0 r at hR2
        have hl22 : l.length = 2 := by omega
        have hr0 : r = [] := List.eq_nil_of_length_eq_zero (by omega)
        have e1 := Lib.hid (show q = false by rw [HQ.out, hr0]; simp)
        rw [hr0] at hR2
        have r1 := run_text hR2 24 9 Tryd.underlying24 Tryd.underlying9
        rw [List.length_nil] at r1
        have r2 := r1
        rw [show (0 : Nat) = l.length - 2 by omega] at r2
        have HC := Lib.hid (plain_any ⟨#[]⟩ w2 (by decide))
        have n6 : (l.length : Int) ≤ 2 + (kx : Int) := by omega
        have n7 : (2 : Int) ≤ (l.length : Int) := by omega
        clear hr0 hR2 hrl hl22
        go_wp2_with fail
        refine HC.out.mono ?_
        rintro e w' ⟨rfl, hw⟩
        obtain rfl := hw.symm
        clear hw
        go_wp2_with fail
        go_meet
        exact ⟨by rw [e1.out], rfl⟩
      · rw [if_neg hc2] at hR2
        simp only [Option.map_some, Addr.add_lit] at hR2
        have n7 : (2 : Int) ≤ (l.length : Int) := by omega
        by_cases hA : l.length ≤ 2 + kx
        · have hrt : r.take kx = r := List.take_of_length_le (by omega)
          have r0 := run_text hR2 24 9 Tryd.underlying24 Tryd.underlying9
          rw [hrl] at r0
          have HC := Lib.hid (plain_any ⟨r.toArray⟩ w2 (by show r.toArray.size ≤ 1000000; simp; omega))
          have e1 := Lib.hid (show q = decide ((0 : UInt8) ∈ r) by rw [HQ.out, hrt])
          have n8 : (l.length : Int) ≤ 2 + (kx : Int) := by omega
          clear hR2 hrl hrt
          go_wp2_with fail
          refine HC.out.mono ?_
          rintro e w' ⟨rfl, hw⟩
          obtain rfl := hw.symm
          clear hw
          go_wp2_with fail
          go_meet
          exact ⟨by rw [e1.out]; first | done | simp, rfl⟩
        · have hP := Rb.part h2 (z := 2) (n := kx) (by omega)
          rw [HDR.out, if_neg hc2] at hP
          simp only [Option.map_some, Addr.add_lit] at hP
          have hpl : (r.take kx).length = kx := by simp; omega
          have r0 := run_text hP 24 9 Tryd.underlying24 Tryd.underlying9
          have hpk : (r.take kx).length = (2 + (kx : Int)).toNat - 2 := by omega
          rw [hpk] at r0
          have HC := Lib.hid (plain_any ⟨(r.take kx).toArray⟩ w2 (by show (r.take kx).toArray.size ≤ 1000000; simp; omega))
          have n8 : ¬ ((l.length : Int) ≤ 2 + (kx : Int)) := by omega
          have n9 : 2 + kx ≤ c := by omega
          clear hR2 hrl hP hpl hpk
          go_wp2_with fail
          refine HC.out.mono ?_
          rintro e w' ⟨rfl, hw⟩
          obtain rfl := hw.symm
          clear hw
          go_wp2_with fail
          go_meet
          exact ⟨by rw [HQ.out]; first | done | simp, rfl⟩
    case rest =>
    obtain ⟨rfl, rfl⟩ := hcut
    have hd := HD.out
    cases q with
    | true =>
      rw [if_pos (of_decide_eq_true HQ.out.symm)] at hd
      have HD2 := Lib.hid hd
      clear hd HD HQ
      go_wp2_with fail
      obtain ⟨E1, E2⟩ := HBAD.out _ rfl
      exact bodyPost_ret (results_ctt rfl rfl E1 Tryd.underlying95 rfl Tryd.sizeV) rfl ⟨by rw [HD2.out]; rfl, E2⟩
    | false =>
    rw [if_neg (of_decide_eq_false HQ.out.symm)] at hd
    clear HD HQ
    have HU0 := fun n' ao' c' (hn : t.length = n') (hR : Rb wc ao' c' t) => hn ▸ textD_any ao' c' t 40 wc hR (by decide)
    have hsz : (docT 40 t).2.1 + 1 ≤ l.length := by
      have h3 := HLN.out
      have h4 := rdU_size t
      unfold docT
      split
      · simp; omega
      · split
        · simp; omega
        · split
          · simp; omega
          · dsimp only
            omega
    by_cases ie0 : (docT 40 t).2.2 = 0
    · rw [if_neg (show ¬ ((docT 40 t).2.2 ≠ 0) from fun h => h ie0)] at hd
      rw [ie0] at HU0
      generalize (docT 40 t).1 = iv at *
      generalize (docT 40 t).2.1 = im at *
      have HU := Lib.hid HU0
      have HD2 := Lib.hid hd
      have q3 : IntKind.i64.wrap (1 + (im : Int)) = 1 + im := IntWalk.i64_in _ (by omega)
      clear hd ie0 HU0 hsz
      have HE := Lib.hid (v_end (hX2.other (p := ⟨vb, 2, none⟩) (fun e => hvx e.symm) (.string ⟨iv.toArray⟩)) (hk2.set (p := ⟨vb, 2, none⟩) (.inr hvw) (.string ⟨iv.toArray⟩)) hxw2 (.int .i64 3) (.int .i64 0) (.string ⟨iv.toArray⟩))
      go_wp2_with fail
      refine (HU.out _ _ _ (by have := HLN.out; omega) HR.out).mono ?_
      rintro e w' ⟨rfl, hw⟩
      obtain rfl := hw.symm
      clear hw
      go_wp2_with fail
      obtain ⟨E1, E2⟩ := HE.out _ rfl
      exact bodyPost_ret (results_ctt rfl rfl E1 Tryd.underlying95 rfl Tryd.sizeV) rfl ⟨by rw [HD2.out]; rfl, E2⟩
    · rw [if_pos ie0] at hd
      generalize (docT 40 t).1 = iv at *
      generalize (docT 40 t).2.1 = im at *
      generalize (docT 40 t).2.2 = ie at *
      have HU := Lib.hid HU0
      have HD2 := Lib.hid hd
      have n5 : ((ie : Int) == 0) = false := by simp; omega
      clear hd ie0 HU0 hsz
      have HE := Lib.hid (v_end (hX2.other (p := ⟨vb, 2, none⟩) (fun e => hvx e.symm) (.string ⟨iv.toArray⟩)) (hk2.set (p := ⟨vb, 2, none⟩) (.inr hvw) (.string ⟨iv.toArray⟩)) hxw2 (.int .i64 0) (.int .i64 0) (.string ⟨#[]⟩))
      go_wp2_with fail
      refine (HU.out _ _ _ (by have := HLN.out; omega) HR.out).mono ?_
      rintro e w' ⟨rfl, hw⟩
      obtain rfl := hw.symm
      clear hw
      go_wp2_with fail
      obtain ⟨E1, E2⟩ := HE.out _ rfl
      exact bodyPost_ret (results_ctt rfl rfl E1 Tryd.underlying95 rfl Tryd.sizeV) rfl ⟨by rw [HD2.out]; rfl, E2⟩
  have hd := HDV.out.symm.trans (docV_long b t (by have := HKB.out; omega))
  have HD := Lib.hid hd
  have n1 : ((kb : Int) == 0) = false := by simp; omega
  have n2 : ((kb : Int) == 1) = false := by simp; omega
  have n3 : ((kb : Int) == 2) = false := by simp; omega
  have n4 : ((kb : Int) == 3) = false := by simp; omega
  clear hd
  go_wp2_with fail
  obtain ⟨E1, E2⟩ := HBAD.out _ rfl
  exact bodyPost_ret (results_ctt rfl rfl E1 Tryd.underlying95 rfl Tryd.sizeV) rfl ⟨by rw [HD.out]; rfl, E2⟩
end Go.Proofs.YtcaahgjepkcenaaDoor
