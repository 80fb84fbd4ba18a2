/- Frames read: read, Clone, Unframe. -/
import Derived.Test.YtcebbgmjbincbaaDoorWc
import Derived.Lib.SliceRun
import Derived.Lib.EndianBits

namespace Go.Proofs.YtcebbgmjbincbaaDoor
open Go.RowKit Go.Lib

/-- the number that four bytes tell -/
def val4 : List UInt8 → Nat
  | a :: b :: c :: d :: _ => a.toNat + 256 * b.toNat + 65536 * c.toNat + 16777216 * d.toNat
  | _ => 0
theorem val4_lt (l : List UInt8) : val4 l < 4294967296 := by
  unfold val4
  split
  · rename_i a b c d _
    have := a.toNat_lt; have := b.toNat_lt; have := c.toNat_lt; have := d.toNat_lt
    omega
  · omega

theorem readFacts (a b c d : Nat) (ha : a < 256) (hb : b < 256) (hc : c < 256) (hd : d < 256) :
    ∃ y1 y2 y3 z1 z2 z3 : Int, IntKind.u32.wrap ((b : Int) * 256) = y1 ∧ IntKind.u32.wrap ((c : Int) * 65536) = y2 ∧ IntKind.u32.wrap ((d : Int) * 16777216) = y3 ∧
      bits .or .u32 (a : Int) y1 = z1 ∧ bits .or .u32 z1 y2 = z2 ∧ bits .or .u32 z2 y3 = z3 ∧ z3 = ((a + 256 * b + 65536 * c + 16777216 * d : Nat) : Int) := by
  refine ⟨(b : Int) * 256, (c : Int) * 65536, (d : Int) * 16777216, (a : Int) + b * 256, (a : Int) + b * 256 + c * 65536, (a : Int) + b * 256 + c * 65536 + d * 16777216, IntWalk.u32_in _ (by omega), IntWalk.u32_in _ (by omega), IntWalk.u32_in _ (by omega), ?_, ?_, ?_, by omega⟩
  · exact u32_or8 _ _ (by omega) (by omega) (by omega) (by omega) (by omega)
  · exact u32_or16 _ _ (by omega) (by omega) (by omega) (by omega) (by omega)
  · exact u32_or24 _ _ (by omega) (by omega) (by omega) (by omega) (by omega)

set_option maxRecDepth 100000 in
set_option maxHeartbeats 4000000 in
theorem read_any (ao : Option Addr) (c : Nat) (l : List UInt8) (w : World) (h : Rb w ao c l) (hl : 4 ≤ l.length) :
    Calls Tryd.prog 85 #[.slice ao l.length c] w fun e w' => e = .returned (.int .u32 (val4 l)) ∧ ∃ m, w' = w.drewN m := by
  obtain ⟨bb, o, rfl⟩ := h.at (by have := h.cap; omega)
  have c0 := h.cell _ rfl 0 _ (bys_at (by omega))
  have c1 := h.cell _ rfl 1 _ (bys_at (by omega))
  have c2 := h.cell _ rfl 2 _ (bys_at (by omega))
  have c3 := h.cell _ rfl 3 _ (bys_at (by omega))
  simp only [Nat.add_zero] at c0 c1 c2 c3
  have hv : val4 l = l[0].toNat + 256 * l[1].toNat + 65536 * l[2].toNat + 16777216 * l[3].toNat := by
    match l, hl with
    | a :: b :: c :: d :: r, _ => rfl
  obtain ⟨y1, y2, y3, z1, z2, z3, e1, e2, e3, e4, e5, e6, e7⟩ := readFacts l[0].toNat l[1].toNat l[2].toNat l[3].toNat l[0].toNat_lt l[1].toNat_lt l[2].toNat_lt l[3].toNat_lt
  rw [← hv] at e7
  have hr : Calls Tryd.prog 85 #[.slice (some ⟨bb, o, none⟩) l.length c] w fun e w' => e = .returned (.int .u32 z3) ∧ ∃ m, w' = w.drewN m := by
    have b0 := l[0].toNat_lt
    have b1 := l[1].toNat_lt
    have b2 := l[2].toNat_lt
    have b3 := l[3].toNat_lt
    clear e7 hv
    generalize l[0].toNat = x0 at *
    generalize l[1].toNat = x1 at *
    generalize l[2].toNat = x2 at *
    generalize l[3].toNat = x3 at *
    have s0 : IntKind.u32.wrap (x0 : Int) = x0 := IntWalk.u32_in _ (by omega)
    have s1 : IntKind.u32.wrap (x1 : Int) = x1 := IntWalk.u32_in _ (by omega)
    have s2 : IntKind.u32.wrap (x2 : Int) = x2 := IntWalk.u32_in _ (by omega)
    have s3 : IntKind.u32.wrap (x3 : Int) = x3 := IntWalk.u32_in _ (by omega)
    have g0 : ¬ (l.length ≤ 0) := by omega
    have g1 : 0 < l.length := by omega
    have g2 : 1 < l.length := by omega
    have g3 : 2 < l.length := by omega
    have g4 : 3 < l.length := by omega
    clear hl h
    go_enter Tryd.func85, Tryd.ntmps85
    go_upto_region 1 with (fail)
    go_quiet (fail)
    go_wp2_with fail
    go_ret
    exact ⟨rfl, _, rfl⟩
  rw [e7] at hr
  exact hr

set_option maxRecDepth 100000 in
theorem clone_bytes (ad : Addr) (c : Nat) (l : List UInt8) (w : World) (h : Rb w (some ad) c l) (hl : l.length ≤ 1000000000) :
    Calls Tryd.prog 52 #[.slice (some ad) l.length c] w fun e w' => ∃ bo d, e = .returned (.slice bo l.length d) ∧ Rb w' bo d l ∧ Keeps [] w w' := by
  obtain ⟨i, z, hi, hz, hsz, hby, hzc⟩ := infoB
  have q := fun (W : World) (a : Option Addr) (n c n' c' : Nat) => Lib.run_eql_slice_nil (P := Tryd.prog) W 22 _ a n c n' c' Tryd.underlying22
  have hk0 := (Keeps.refl [] w).alloc (.cells #[] 5)
  have hO0 : Own (w.alloc (.cells #[] 5)) w.heap.size (some ⟨w.heap.size, 0, none⟩) 0 [] := World.ownsRow_lit (base := w.heap.size) (e := 5) (size := 1) w #[] 0 (Nat.le_refl _) (by decide) rfl
  have h0 := h.keep0 hk0
  go_enter Tryd.func52, Tryd.ntmps52
  go_wp2_with (at_builtin; refine wpList_append_by _ rfl _ _ 22 22 rfl w.heap.size 5 i z 1 1 Tryd.underlying22 hi hz hsz hby hzc (some ⟨w.heap.size, 0, none⟩) _ 0 _ rfl hO0 _ rfl l.length _ (h0.src Tryd.underlying22) (by unfold maxLen; omega) (by omega) (by simp) ?_; intro a1 c1 w1 hO1 hk1 hb1)
  have hO2 : Own w1 w.heap.size a1 c1 l := Own.of hO1 rfl
  go_ret
  exact ⟨a1, c1, rfl, hO2.rb, hk0.own hk1 hO0⟩

/-- what Unframe tells -/
def unfr (l : List UInt8) : List UInt8 × Nat × Nat :=
  if l.length < 4 then ([], 0, 22) else
  if 262144 < val4 l then ([], 0, 20) else
  if l.length < val4 l + 8 then ([], 0, 22) else
  if val4 (l.drop (val4 l + 4)) ≠ crc (l.take (val4 l + 4)) then ([], 0, 21) else
  ((l.drop 4).take (val4 l), val4 l + 8, 0)

set_option maxRecDepth 100000 in
set_option maxHeartbeats 4000000 in
theorem unframe_any (ao : Option Addr) (c : Nat) (l : List UInt8) (w : World) (h : Rb w ao c l) :
    Calls Tryd.prog 74 #[.slice ao l.length c] w fun e w' => ∃ bo d ev, e = .returned (.tuple #[.slice bo (unfr l).1.length d, .int .i64 (unfr l).2.1, ev]) ∧ Rb w' bo d (unfr l).1 ∧ ErrF w' ev (unfr l).2.2 ∧ Keeps [] w w' := by
  have hmx := h.most
  have hcp := h.cap
  unfold maxLen at hmx
  generalize hres : unfr l = res
  unfold unfr at hres
  by_cases h4 : l.length < 4
  · rw [if_pos h4] at hres
    subst hres
    have n1 : (l.length : Int) < 4 := by omega
    go_enter Tryd.func74, Tryd.ntmps74
    go_wp2_with fail
    refine (wshort _ w).mono ?_
    rintro e w1 ⟨g, rfl, hE, hk1⟩
    go_wp2_with fail
    go_ret3
    exact ⟨none, 0, _, rfl, Sl.none _ _, ErrF.of hE (by simp), hk1⟩
  rw [if_neg h4] at hres
  have n1 : ¬ ((l.length : Int) < 4) := by omega
  have R := read_any ao c l w h (by omega)
  have hvl := val4_lt l
  generalize hv : val4 l = n at *
  by_cases h20 : 262144 < n
  · rw [if_pos h20] at hres
    subst hres
    have n2 : (262144 : Int) < (n : Int) := by omega
    go_enter Tryd.func74, Tryd.ntmps74
    go_wp2_with fail
    refine R.mono ?_
    rintro e w1 ⟨rfl, m, rfl⟩
    go_wp2_with fail
    refine (wform _ _).mono ?_
    rintro e w2 ⟨g, rfl, hE, hk1⟩
    go_wp2_with fail
    go_ret3
    exact ⟨none, 0, _, rfl, Sl.none _ _, ErrF.of hE (by simp), ((Keeps.refl [] w).drewN m).trans hk1⟩
  rw [if_neg h20] at hres
  have n2 : ¬ ((262144 : Int) < (n : Int)) := by omega
  have q1 : IntKind.i64.wrap (n : Int) = n := IntWalk.i64_in _ (by omega)
  have q2 : IntKind.i64.wrap (4 + (n : Int)) = ((n + 4 : Nat) : Int) := by rw [IntWalk.i64_in _ (by omega)]; omega
  have q3 : IntKind.i64.wrap (((n + 4 : Nat) : Int) + 4) = ((n + 8 : Nat) : Int) := by rw [IntWalk.i64_in _ (by omega)]; omega
  obtain ⟨e4, he4⟩ : ∃ e4, e4 = n + 4 := ⟨_, rfl⟩
  obtain ⟨e8, he8⟩ : ∃ e8, e8 = n + 8 := ⟨_, rfl⟩
  rw [← he4] at q2 q3 hres
  rw [← he8] at q3 hres
  by_cases h22 : l.length < e8
  · rw [if_pos h22] at hres
    subst hres
    have n3 : (l.length : Int) < (e8 : Int) := by omega
    go_enter Tryd.func74, Tryd.ntmps74
    go_wp2_with fail
    refine R.mono ?_
    rintro e w1 ⟨rfl, m, rfl⟩
    go_wp2_with fail
    refine (wshort _ _).mono ?_
    rintro e w2 ⟨g, rfl, hE, hk1⟩
    go_wp2_with fail
    go_ret3
    exact ⟨none, 0, _, rfl, Sl.none _ _, ErrF.of hE (by simp), ((Keeps.refl [] w).drewN m).trans hk1⟩
  rw [if_neg h22] at hres
  have n3 : ¬ ((l.length : Int) < (e8 : Int)) := by omega
  have n4 : e4 ≤ l.length := by omega
  have n5 : e4 ≤ c := by omega
  have hlen8 : e4 + 4 ≤ l.length := by omega
  obtain ⟨bb, o, rfl⟩ := h.at (by omega)
  have hD := h.drop (k := e4) n4
  have hDb : (bys l).drop (e4 * 1) = bys (l.drop e4) := by unfold bys; rw [Nat.mul_one, List.map_drop]
  have hDl : (l.drop e4).length = l.length - e4 := by simp
  have hT := h.take (k := e4) (c' := c) n4 n5 (Nat.le_refl _)
  have hTb : (bys l).take (e4 * 1) = bys (l.take e4) := by unfold bys; rw [Nat.mul_one, List.map_take]
  have hTl : (l.take e4).length = e4 := by simp; omega
  have hne : ¬ (c = e4) := by omega
  rw [if_neg hne, hDb, Nat.mul_one] at hD
  rw [hTb] at hT
  simp only [Option.map_some] at hD
  have ha : (⟨bb, o, none⟩ : Addr).add e4 = ⟨bb, o + e4, none⟩ := by unfold Addr.add; split <;> simp_all
  rw [ha] at hD
  have T1 := fun (W : World) (hk : Keeps [] w W) => read_any (some ⟨bb, o + e4, none⟩) (c - e4) (l.drop e4) W (by unfold Rb; rw [hDl]; exact hD.keep0 hk) (by rw [hDl]; omega)
  have T2 := fun (W : World) (hk : Keeps [] w W) => sum_any (some ⟨bb, o, none⟩) c (l.take e4) W (by unfold Rb; rw [hTl]; exact hT.keep0 hk)
  rw [hDl] at T1
  rw [hTl] at T2
  generalize val4 (l.drop e4) = v at *
  generalize crc (l.take e4) = s at *
  have HT1 := Lib.hid T1
  have HT2 := Lib.hid T2
  have HH := Lib.hid h
  have HE4 := Lib.hid he4
  have HE8 := Lib.hid he8
  clear T1 T2 hD hT hDb hTb hDl hTl he4 he8
  go_enter Tryd.func74, Tryd.ntmps74
  go_wp2_with fail
  refine R.mono ?_
  rintro e w1 ⟨rfl, m, rfl⟩
  have hk1 := (Keeps.refl [] w).drewN m
  generalize World.drewN w m = w1 at *
  clear R
  go_upto_region 9 with (fail)
  have T1 := Lib.hid fun m => HT1.out (w1.drewN m) (hk1.drewN m)
  have T2 := Lib.hid fun m => HT2.out (w1.drewN m) (hk1.drewN m)
  clear HT1 HT2
  go_quiet (first
    | (go_at_call 85; exact Calls.quiet_of (T1.out _))
    | (go_at_call 83; exact Calls.quiet_of_same (T2.out _)))
  have hk2 := hk1.drewN nq
  generalize World.drewN w1 nq = w2 at *
  clear T1 T2 hk1
  by_cases hvs : v = s
  rotate_left
  · rw [if_pos hvs] at hres
    subst hres
    have n6 : ¬ ((v : Int) = (s : Int)) := by omega
    clear hvs
    go_wp2_with fail
    go_ret3
    exact ⟨none, 0, _, rfl, Sl.none _ _, .inr ⟨by decide, _, _, rfl, Blk.fresh _ _ _⟩, hk2.alloc _⟩
  rw [if_neg (by simp [hvs])] at hres
  have n7 : e4 - 4 = n := by rw [HE4.out]; omega
  have n8 : 4 ≤ e4 := by rw [HE4.out]; omega
  have hc4 : ¬ (c = 4) := by omega
  have q4 : IntKind.i64.wrap ((e4 : Int) + 4) = e8 := q3
  have hP := HH.out.part (z := 4) (n := n) (by omega)
  rw [if_neg hc4] at hP
  simp only [Option.map_some] at hP
  have ha4 : (⟨bb, o, none⟩ : Addr).add 4 = ⟨bb, o + 4, none⟩ := by unfold Addr.add; simp
  rw [ha4] at hP
  have hpl : ((l.drop 4).take n).length = n := by simp; omega
  have C := clone_bytes ⟨bb, o + 4, none⟩ (c - 4) ((l.drop 4).take n) w2 (hP.keep0 hk2) (by omega)
  rw [hpl] at C
  subst hres
  have hvs' : ((v : Int) == (s : Int)) = true := by simp [hvs]
  subst hvs
  clear hP hpl ha4
  go_wp2_with fail
  refine C.mono ?_
  rintro e w3 ⟨bo, d, rfl, hR3, hk3⟩
  clear C
  go_wp2_with fail
  go_ret3
  exact ⟨bo, d, .nilIface, by
    have x1 := HE4.out
    rw [show min n (l.length - 4) = n by omega]
    rfl, hR3, .inl ⟨rfl, rfl⟩, hk2.trans hk3⟩
end Go.Proofs.YtcebbgmjbincbaaDoor
