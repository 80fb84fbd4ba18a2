/- The document's Unframe. -/
import Derived.Test.YtcaahgjepkcenaaDoorWrd
import Derived.Test.YtcaahgjepkcenaaDoorWn
import Derived.Test.YtcaahgjepkcenaaDoorWf
import Derived.Test.YtcaahgjepkcenaaDoorReg2

namespace Go.Proofs.YtcaahgjepkcenaaDoor
open Go.RowKit Go.Lib

theorem addFacts (a b c d : Nat) (ha : a < 256) (hb : b < 256) (hc : c < 256) (hd : d < 256) :
    ∃ y1 y2 y3 z1 z2 z3 : Int, IntKind.i64.wrap ((b : Int) * 256) = y1 ∧ IntKind.i64.wrap ((c : Int) * 65536) = y2 ∧ IntKind.i64.wrap ((d : Int) * 16777216) = y3 ∧
      IntKind.i64.wrap ((a : Int) + y1) = z1 ∧ IntKind.i64.wrap (z1 + y2) = z2 ∧ IntKind.i64.wrap (z2 + y3) = z3 ∧ z3 = ((a + 256 * b + 65536 * c + 16777216 * d : Nat) : Int) := by
  refine ⟨(b : Int) * 256, (c : Int) * 65536, (d : Int) * 16777216, (a : Int) + b * 256, (a : Int) + b * 256 + c * 65536, (a : Int) + b * 256 + c * 65536 + d * 16777216, ?_, ?_, ?_, ?_, ?_, ?_, by omega⟩ <;> exact IntWalk.i64_in _ (by omega)
theorem num4_val4 (l : List UInt8) (n : Nat) (hn : n < 4294967296) (h : 4 ≤ l.length) : num4 n = l.take 4 ↔ n = val4 l := by
  match l, h with
  | a :: b :: c :: d :: r, _ =>
    have h1 := a.toNat_lt
    have h2 := b.toNat_lt
    have h3 := c.toNat_lt
    have h4 := d.toNat_lt
    have e : ∀ (m : Nat) (x : UInt8), UInt8.ofNat m = x ↔ m % 256 = x.toNat := by
      intro m x
      rw [← UInt8.toNat_inj, UInt8.toNat_ofNat']
    simp only [num4, List.take_succ_cons, List.take_zero, List.cons.injEq, and_true, e, val4]
    omega

set_option maxRecDepth 100000 in
set_option maxHeartbeats 2000000 in
theorem unframeR_any (ao : Option Addr) (c : Nat) (l : List UInt8) (w : World) (h : Rb w ao c l) :
    Calls Tryd.prog 41 #[.slice ao l.length c] w fun e w' => ∃ bo d, e = .returned (.tuple #[.slice bo (unfr l).1.length d, .int .i64 (unfr l).2.1, .int .i64 (unfr l).2.2]) ∧ Rb w' bo d (unfr l).1 ∧ Keeps [] w w' := by
  have hmx := h.most
  have hcp := h.cap
  unfold maxLen at hmx
  generalize hres : unfr l = res
  unfold unfr at hres
  by_cases h4 : l.length < 4
  · rw [if_pos h4] at hres
    subst hres
    have n1 : (l.length : Int) < 4 := by omega
    go_enter Tryd.func41, Tryd.ntmps41
    go_wp2_with fail
    go_ret3
    exact ⟨none, 0, rfl, Sl.none _ _, Keeps.refl _ _⟩
  rw [if_neg h4] at hres
  have n1 : ¬ ((l.length : Int) < 4) := by omega
  obtain ⟨bb, o, rfl⟩ := h.at (by omega)
  have c0 := h.cell _ rfl 0 _ (bys_at (by omega))
  have c1 := h.cell _ rfl 1 _ (bys_at (by omega))
  have c2 := h.cell _ rfl 2 _ (bys_at (by omega))
  have c3 := h.cell _ rfl 3 _ (bys_at (by omega))
  simp only [Nat.add_zero] at c0 c1 c2 c3
  have hv : val4 l = l[0].toNat + 256 * l[1].toNat + 65536 * l[2].toNat + 16777216 * l[3].toNat := by
    have key : ∀ (l : List UInt8) (h : 4 ≤ l.length), val4 l = l[0].toNat + 256 * l[1].toNat + 65536 * l[2].toNat + 16777216 * l[3].toNat := by
      intro l h
      match l, h with
      | a :: b :: c :: d :: r, _ => rfl
    exact key l (by omega)
  obtain ⟨y1, y2, y3, z1, z2, z3, e1, e2, e3, e4, e5, e6, e7⟩ := addFacts l[0].toNat l[1].toNat l[2].toNat l[3].toNat l[0].toNat_lt l[1].toNat_lt l[2].toNat_lt l[3].toNat_lt
  rw [← hv] at e7
  have b0 := l[0].toNat_lt
  have b1 := l[1].toNat_lt
  have b2 := l[2].toNat_lt
  have b3 := l[3].toNat_lt
  clear hv
  generalize l[0].toNat = x0 at *
  generalize l[1].toNat = x1 at *
  generalize l[2].toNat = x2 at *
  generalize l[3].toNat = x3 at *
  have s0 : IntKind.i64.wrap (x0 : Int) = x0 := IntWalk.i64_in _ (by omega)
  have s1 : IntKind.i64.wrap (x1 : Int) = x1 := IntWalk.i64_in _ (by omega)
  have s2 : IntKind.i64.wrap (x2 : Int) = x2 := IntWalk.i64_in _ (by omega)
  have s3 : IntKind.i64.wrap (x3 : Int) = x3 := IntWalk.i64_in _ (by omega)
  have g0 : ¬ (l.length ≤ 0) := by omega
  have g1 : 0 < l.length := by omega
  have g2 : 1 < l.length := by omega
  have g3 : 2 < l.length := by omega
  have g4 : 3 < l.length := by omega
  have hvl := val4_lt l
  generalize hvn : val4 l = n at *
  subst e7
  have HRES := Lib.hid hres
  have HV := Lib.hid hvn
  have HG := Lib.hid h4
  clear hres hvn h4
  go_enter Tryd.func41, Tryd.ntmps41
  go_upto_region 3 with (fail)
  go_quiet (fail)
  have hk1 := (Keeps.refl [] w).drewN nq
  have h1 := h.keep0 hk1
  clear c0 c1 c2 c3 h e1 e2 e3 e4 e5 e6 s0 s1 s2 s3 b0 b1 b2 b3 g0 g1 g2 g3 g4
  generalize World.drewN w nq = w1 at *
  have hres := HRES.out
  by_cases h20 : 262144 < n
  · rw [if_pos h20] at hres
    have n2 : (262144 : Int) < (n : Int) := by omega
    subst hres
    go_wp2_with fail
    go_ret3
    exact ⟨none, 0, rfl, Sl.none _ _, hk1⟩
  rw [if_neg h20] at hres
  have n2 : ¬ ((262144 : Int) < (n : Int)) := by omega
  obtain ⟨e4, he4⟩ : ∃ e4, e4 = n + 4 := ⟨_, rfl⟩
  obtain ⟨e8, he8⟩ : ∃ e8, e8 = n + 8 := ⟨_, rfl⟩
  have q2 : IntKind.i64.wrap ((n : Int) + 4) = e4 := by rw [IntWalk.i64_in _ (by omega)]; omega
  have q3 : IntKind.i64.wrap ((n : Int) + 8) = e8 := by rw [IntWalk.i64_in _ (by omega)]; omega
  rw [← he4, ← he8] at hres
  by_cases h22 : l.length < e8
  · rw [if_pos h22] at hres
    have n3 : (l.length : Int) < (e8 : Int) := by omega
    subst hres
    go_wp2_with fail
    go_ret3
    exact ⟨none, 0, rfl, Sl.none _ _, hk1⟩
  rw [if_neg h22] at hres
  have n3 : ¬ ((l.length : Int) < (e8 : Int)) := by omega
  have n4 : e4 ≤ l.length := by omega
  have n5 : e4 ≤ c := by omega
  have hne : ¬ (c = e4) := by omega
  have n6 : e8 ≤ c := by omega
  have n7 : e4 ≤ e8 := by omega
  have hP := Rb.part h1 (z := e4) (n := 4) (by omega)
  rw [if_neg hne] at hP
  simp only [Option.map_some, Addr.add_lit] at hP
  have hdl : (l.drop e4).length = l.length - e4 := List.length_drop
  have hfl : ((l.drop e4).take 4).length = 4 := by rw [List.length_take]; omega
  have hnv := num4_val4 (l.drop e4) (crc (l.take e4)) (crc_lt _) (by omega)
  have hT := h1.take (k := e4) (c' := c) n4 n5 (Nat.le_refl _)
  have hTb : (bys l).take (e4 * 1) = bys (l.take e4) := by unfold bys; rw [Nat.mul_one, List.map_take]
  have hTl : (l.take e4).length = e4 := by simp; omega
  rw [hTb] at hT
  have T2 := sumR_any (some ⟨bb, o, none⟩) c (l.take e4) w1.drew (by unfold Rb; rw [hTl]; exact hT.keep0 (Keeps.refl [] w1).drew)
  rw [hTl] at T2
  have HT4 := Lib.hid fun W => four_any (crc (l.take e4)) W
  generalize val4 (l.drop e4) = v at *
  generalize crc (l.take e4) = s at *
  generalize (l.drop e4).take 4 = f at *
  have HS := Lib.hid (show ∀ W, Keeps [] w1 W → ∀ p ∈ [((13 : Nat), fun w0 : World => Rb w0 (some ⟨bb, o + e4, none⟩) (c - e4) f)], p.2 W from fun W hk p hp => by simp at hp; subst hp; exact hP.keep0 hk)
  have hSw := HS.out w1.drew (Keeps.refl [] w1).drew
  have HNV := Lib.hid hnv
  have HT := Lib.hid T2
  have HFL := Lib.hid hfl
  have HRES2 := Lib.hid hres
  have HE4 := Lib.hid he4
  have HE8 := Lib.hid he8
  clear HRES hres hnv T2 hfl hTb hTl hT hdl hP he4 he8
  go_upto_region 8 with (fail)
  refine startU [((13 : Nat), fun w0 : World => Rb w0 (some ⟨bb, o + e4, none⟩) (c - e4) f)] (by kernel_rfl) ?_
  refine takeU (i := 0) (v := ?_) rfl (by kernel_rfl) (fun _ _ _ h => h) (Or.inl ⟨by rfl, fun w0 hw0 => ?_⟩) (fun p hp _ => hSw p hp) ?_
  rotate_left
  · simp [Reads] at hw0
    go_simp
    try with_reducible rfl
  try go_simp
  refine takeU (i := 1) (v := ?_) rfl (by kernel_rfl) (fun _ _ _ h => h) (Or.inl ⟨by rfl, fun w0 hw0 => ?_⟩) (fun p hp _ => hSw p hp) ?_
  rotate_left
  · simp [Reads] at hw0
    go_simp
    try with_reducible rfl
  try go_simp
  refine takeU (i := 2) (v := ?_) rfl (by kernel_rfl) (fun _ _ _ h => h) (Or.inl ⟨by rfl, fun w0 hw0 => ?_⟩) (fun p hp _ => hSw p hp) ?_
  rotate_left
  · simp [Reads] at hw0
    go_simp
    try with_reducible rfl
  try go_simp
  refine takeU (i := 3) (v := ?_) rfl (by kernel_rfl) (fun _ _ _ h => h) (Or.inl ⟨by rfl, fun w0 hw0 => ?_⟩) (fun p hp _ => hSw p hp) ?_
  rotate_left
  · simp [Reads] at hw0
    go_simp
    try with_reducible rfl
  try go_simp
  refine takeU (i := 7) (v := ?_) rfl (by kernel_rfl) (fun _ _ _ h => h) (Or.inl ⟨by rfl, fun w0 hw0 => ?_⟩) (fun p hp _ => hSw p hp) ?_
  rotate_left
  · simp [Reads] at hw0
    go_simp
    try with_reducible rfl
  try go_simp
  refine takeU (i := 8) (v := ?_) rfl (by kernel_rfl) (fun _ _ _ h => h) (Or.inl ⟨by rfl, fun w0 hw0 => ?_⟩) (fun p hp _ => hSw p hp) ?_
  rotate_left
  · simp [Reads] at hw0
    go_simp
    try with_reducible rfl
  try go_simp
  refine takeU (i := 9) (v := ?_) rfl (by kernel_rfl) (fun _ _ _ h => h) (Or.inl ⟨by rfl, fun w0 hw0 => ?_⟩) (fun p hp _ => hSw p hp) ?_
  rotate_left
  · simp [Reads] at hw0
    go_simp
    try with_reducible rfl
  try go_simp
  refine takeU (i := 10) (v := ?_) rfl (by kernel_rfl) (fun _ _ _ h => h) (Or.inl ⟨by rfl, fun w0 hw0 => ?_⟩) (fun p hp _ => hSw p hp) ?_
  rotate_left
  · simp [Reads] at hw0
    go_simp
    try with_reducible rfl
  try go_simp
  refine takeU (i := 11) (v := ?_) rfl (by kernel_rfl) (fun _ _ _ h => h) (Or.inl ⟨by rfl, fun w0 hw0 => ?_⟩) (fun p hp _ => hSw p hp) ?_
  rotate_left
  · simp [Reads] at hw0
    go_simp
    try with_reducible rfl
  try go_simp
  refine takeU (i := 12) (v := ?_) rfl (by kernel_rfl) (fun _ _ _ h => h) (Or.inl ⟨by rfl, fun w0 hw0 => ?_⟩) (fun p hp _ => hSw p hp) ?_
  rotate_left
  · simp [Reads] at hw0
    go_simp
    try with_reducible rfl
  try go_simp
  refine takeU (i := 13) (v := .string ⟨f.toArray⟩) rfl (by kernel_rfl) (fun _ _ _ h => h) (Or.inl ⟨by rfl, fun w0 hw0 => ?_⟩) (fun p hp _ => hSw p hp) ?_
  · have hw := hw0 _ (List.mem_singleton_self _) rfl
    have r0 := run_text hw 24 9 Tryd.underlying24 Tryd.underlying9
    rw [HFL.out, show 4 = e8 - e4 by have := HE4.out; have := HE8.out; omega] at r0
    clear hw0 hw
    go_simp
  try go_simp
  refine oneU (i := 4) rfl (by kernel_rfl) (fun K hK => ?_)
  go_simp
  go_at_call 30
  refine HT.out.mono ?_
  rintro e w' ⟨rfl, hw⟩
  obtain rfl := hw.symm
  clear hw HT
  refine hK _ _ (fun p hp _ _ => hSw p hp) ?_
  clear hK K
  try go_simp
  refine oneU (i := 5) rfl (by kernel_rfl) (fun K hK => ?_)
  go_simp
  go_at_call 54
  refine (HT4.out _).mono ?_
  rintro e w3 ⟨a3, c3, rfl, hO, hk3⟩
  have hk13 := (Keeps.refl [] w1).drew.trans hk3
  have hSw3 := HS.out w3 hk13
  have hk03 := hk1.trans hk13
  refine hK _ _ (fun p hp _ _ => hSw3 p hp) ?_
  clear hK K hSw
  try go_simp
  have r3 := run_text hO.rb 24 9 Tryd.underlying24 Tryd.underlying9
  refine oneU (i := 6) rfl (by kernel_rfl) (fun K hK => ?_)
  go_simp
  refine hK _ _ (fun p hp _ _ => hSw3 p hp) ?_
  clear hK K
  try go_simp
  have hnl : (num4 s).length = 4 := rfl
  have hres := HRES2.out
  by_cases hvs : num4 s = f
  rotate_left
  · have hvs2 : ¬ ((⟨(num4 s).toArray⟩ : ByteArray) = ⟨f.toArray⟩) := fun e => hvs (by simpa using e)
    have hvn : v ≠ s := fun e => hvs (HNV.out.2 e.symm)
    rw [if_pos hvn] at hres
    have hvs3 : (num4 s == f) = false := by simpa using hvs
    clear hvn
    subst hres
    refine oneU (i := 14) rfl (by kernel_rfl) (fun K hK => ?_)
    go_simp
    refine hK _ _ (fun p hp _ _ => hSw3 p hp) ?_
    clear hK K r3
    refine doneU (by kernel_rfl) ?_
    go_wp2_with fail
    go_ret3
    exact ⟨none, 0, rfl, Sl.none _ _, hk03⟩
  have hvn : ¬ (v ≠ s) := fun h => h (HNV.out.1 hvs).symm
  rw [if_neg hvn] at hres
  subst hvs
  clear hvn
  refine oneU (i := 14) rfl (by kernel_rfl) (fun K hK => ?_)
  go_simp
  refine hK _ _ (fun p hp _ _ => hSw3 p hp) ?_
  clear hK K r3 hSw3 hnl
  refine doneU (by kernel_rfl) ?_
  have h3 := h1.keep0 hk13
  have hx4 := HE4.out
  have hx8 := HE8.out
  have hc4 : ¬ (c = 4) := by omega
  have hP := Rb.part h3 (z := 4) (n := n) (by omega)
  rw [if_neg hc4] at hP
  simp only [Option.map_some, Addr.add_lit] at hP
  have hpl : ((l.drop 4).take n).length = n := by simp; omega
  subst hres
  have n8 : e4 - 4 = n := by omega
  have n9 : 4 ≤ e4 := by omega
  clear hx4 hx8
  obtain ⟨i, z, hi, hz, hsz, hby, hzc⟩ := infoB
  have HPL := Lib.hid hpl
  clear hpl
  go_wp2_with (at_builtin; refine wpList_append_by _ rfl _ _ 24 24 rfl w.heap.size 5 i z 1 1 Tryd.underlying24 hi hz hsz hby hzc none _ 0 _ rfl (Own.nil _ _) _ rfl n _ (by have := hP.src Tryd.underlying24; rw [HPL.out] at this; first | exact this | (rw [n8]; exact this)) (by unfold maxLen; omega) (by omega) hk03.size ?_; intro a4 c4 w4 hO4 hk4 hb4)
  have hO5 := Own.of hO4 (List.nil_append _)
  go_ret3
  exact ⟨a4, c4, by
    have x1 := HE4.out
    have x2 := HE8.out
    rw [show min n (l.length - 4) = n by omega]
    rfl, hO5.rb, hk03.trans hk4⟩
end Go.Proofs.YtcaahgjepkcenaaDoor
