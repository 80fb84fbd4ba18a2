/- Snapshots: their bytes. -/
import Derived.Test.YtcebbgmjbincbaaDoorDl1
import Derived.Test.YtcebbgmjbincbaaDoorWfl
import Derived.Test.YtcebbgmjbincbaaDoorLaws2

namespace Go.Proofs.YtcebbgmjbincbaaDoor
open Go.RowKit Go.Lib

theorem Tryd.sizeSnap : (Tryd.prog.info? 69).map (·.size) = some 3 := by kernel_rfl
/-- a snapshot's bytes, ahead of the frame -/
def snB (ix tm : Nat) (l : List UInt8) : List UInt8 := uvarint ix ++ uvarint tm ++ l
theorem rdsU3 {W : World} {F1 F2 F3 : World → Prop} {i1 i2 i3 : Nat} (h1 : F1 W) (h2 : F2 W) (h3 : F3 W) : ∀ p ∈ [(i1, F1), (i2, F2), (i3, F3)], p.2 W := by
  intro p hp
  simp only [List.mem_cons, List.not_mem_nil, or_false] at hp
  rcases hp with rfl | rfl | rfl <;> assumption
set_option maxRecDepth 100000 in
set_option maxHeartbeats 4000000 in
theorem encode_any (ix tm : Nat) (ao : Option Addr) (c : Nat) (l : List UInt8) (w : World) (h : Rb w ao c l) (hl : l.length ≤ 262080) (hi : ix < 18446744073709551616) (ht : tm < 18446744073709551616) :
    Calls Tryd.prog 60 #[.agg #[.int .u64 (ix : Nat), .int .u64 (tm : Nat), .slice ao l.length c]] w fun e w' => ∃ bo d, e = .returned (.tuple #[.slice bo (frame (snB ix tm l)).length d, .nilIface]) ∧ Own w' w.heap.size bo d (frame (snB ix tm l)) ∧ Keeps [] w w' := by
  obtain ⟨i, z, hi', hz, hsz, hby, hzc⟩ := infoB
  have hX := Blk.fresh w 69 #[.int .u64 (ix : Nat), .int .u64 (tm : Nat), .slice ao l.length c]
  have hkX := (Keeps.refl [] w).alloc (.cells #[.int .u64 (ix : Nat), .int .u64 (tm : Nat), .slice ao l.length c] 69)
  have n1 : ¬ ((262080 : Int) < (l.length : Int)) := by omega
  have hlx := uvarint_length64 hi
  have hlt := uvarint_length64 ht
  go_enter Tryd.func60, Tryd.ntmps60
  go_upto_region 3 with (fail)
  generalize World.alloc w _ = w1 at *
  generalize hsb : w.heap.size = sb at *
  have hR0 : (∀ W : World, Keeps [] w1 W → ∀ q ∈ [((1 : Nat), fun w0 : World => w0.cell? ⟨sb, 0, none⟩ = some (.int .u64 (ix : Nat))), ((4 : Nat), fun w0 : World => w0.cell? ⟨sb, 1, none⟩ = some (.int .u64 (tm : Nat))), ((8 : Nat), fun w0 : World => w0.cell? ⟨sb, 2, none⟩ = some (.slice ao l.length c))], q.2 W) := fun W hW => rdsU3 (hW.cellSome (hX.cell 0) (by simp)) (hW.cellSome (hX.cell 1) (by simp)) (hW.cellSome (hX.cell 2) (by simp))
  have hkd := (Keeps.refl [] w1).drew
  have hSw := hR0 _ hkd
  have HR := Lib.hid hR0
  clear hR0
  refine startU [((1 : Nat), fun w0 : World => w0.cell? ⟨sb, 0, none⟩ = some (.int .u64 (ix : Nat))), ((4 : Nat), fun w0 : World => w0.cell? ⟨sb, 1, none⟩ = some (.int .u64 (tm : Nat))), ((8 : Nat), fun w0 : World => w0.cell? ⟨sb, 2, none⟩ = some (.slice ao l.length c))] (by kernel_rfl) ?_
  generalize w1.drew = w2 at *
  refine takeU (i := 0) (v := ?_) rfl (by kernel_rfl) (fun _ _ _ h => h) (Or.inl ⟨by rfl, fun w0 hw0 => ?_⟩) (fun p hp _ => hSw p hp) ?_
  rotate_left
  · simp [Reads] at hw0
    go_simp
    try with_reducible rfl
  try go_simp
  refine takeU (i := 1) (v := ?_) rfl (by kernel_rfl) (fun _ _ _ h => h) (Or.inl ⟨by rfl, fun w0 hw0 => ?_⟩) (fun p hp _ => hSw p hp) ?_
  rotate_left
  · simp [Reads] at hw0
    go_simp
    try with_reducible rfl
  try go_simp
  refine takeU (i := 3) (v := ?_) rfl (by kernel_rfl) (fun _ _ _ h => h) (Or.inl ⟨by rfl, fun w0 hw0 => ?_⟩) (fun p hp _ => hSw p hp) ?_
  rotate_left
  · simp [Reads] at hw0
    go_simp
    try with_reducible rfl
  try go_simp
  refine takeU (i := 4) (v := ?_) rfl (by kernel_rfl) (fun _ _ _ h => h) (Or.inl ⟨by rfl, fun w0 hw0 => ?_⟩) (fun p hp _ => hSw p hp) ?_
  rotate_left
  · simp [Reads] at hw0
    go_simp
    try with_reducible rfl
  try go_simp
  refine takeU (i := 7) (v := ?_) rfl (by kernel_rfl) (fun _ _ _ h => h) (Or.inl ⟨by rfl, fun w0 hw0 => ?_⟩) (fun p hp _ => hSw p hp) ?_
  rotate_left
  · simp [Reads] at hw0
    go_simp
    try with_reducible rfl
  try go_simp
  refine takeU (i := 8) (v := ?_) rfl (by kernel_rfl) (fun _ _ _ h => h) (Or.inl ⟨by rfl, fun w0 hw0 => ?_⟩) (fun p hp _ => hSw p hp) ?_
  rotate_left
  · simp [Reads] at hw0
    go_simp
    try with_reducible rfl
  try go_simp
  clear hSw
  refine oneU (i := 2) rfl (by kernel_rfl) (fun K hK => ?_)
  rw [if_pos (show Region.wanted _ _ = true from rfl)]
  go_wp2_with fail
  refine (putUint ix w2 hi).mono ?_
  rintro e w3 ⟨a3, c3, rfl, hO3, hk3⟩
  have hk13 := hkd.trans hk3
  simp only []
  refine hK _ _ (fun q hq _ _ => HR.out _ (hk13) q hq) ?_
  clear hK K
  try go_simp
  refine oneU (i := 5) rfl (by kernel_rfl) (fun K hK => ?_)
  rw [if_pos (show Region.wanted _ _ = true from rfl)]
  go_wp2_with fail
  refine (putUint tm w3 ht).mono ?_
  rintro e w4 ⟨a4, c4, rfl, hO4, hk4⟩
  have hk14 := hk13.trans hk4
  simp only []
  refine hK _ _ (fun q hq _ _ => HR.out _ (hk14) q hq) ?_
  clear hK K
  try go_simp
  have hO3' := hO3.keep0 hk4
  refine oneU (i := 6) rfl (by kernel_rfl) (fun K hK => ?_)
  refine step_append_by rfl _ _ 22 22 rfl w2.heap.size 5 i z 1 1 Tryd.underlying22 hi' hz hsz hby hzc a3 _ c3 _ rfl hO3' _ rfl (uvarint tm).length _ (hO4.rb.src Tryd.underlying22) (by unfold maxLen; omega) (by omega) (Nat.le_trans hk3.size hk4.size) ?_
  intro a5 c5 w5 hO5 hk5 hb5
  have hO5' := Own.of hO5 (bys_append _ _).symm
  have hk15 : Keeps [] w1 w5 := hk14.step hk5 (fun x hx => .inr (Nat.le_trans hkd.size (hO3'.lt x hx).1))
  refine hK _ _ (fun q hq _ _ => HR.out _ hk15 q hq) ?_
  clear hK K
  try go_simp
  refine oneU (i := 9) rfl (by kernel_rfl) (fun K hK => ?_)
  have hD5 := (h.keep0 hkX).keep0 hk15
  have e1 : (uvarint ix).length + (uvarint tm).length = (uvarint ix ++ uvarint tm).length := by simp
  rw [e1]
  have hl12 : (uvarint ix ++ uvarint tm).length ≤ 20 := by simp; omega
  clear e1
  refine step_append_by rfl _ _ 22 22 rfl w2.heap.size 5 i z 1 1 Tryd.underlying22 hi' hz hsz hby hzc a5 _ c5 _ rfl hO5' _ rfl l.length _ (hD5.src Tryd.underlying22) (by unfold maxLen; omega) (by omega) (by have := hk3.size; have := hk4.size; have := hk5.size; omega) ?_
  intro a6 c6 w6 hO6 hk6 hb6
  have hO6' := Own.of hO6 (bys_append _ _).symm
  have hk16 : Keeps [] w1 w6 := hk15.step hk6 (fun x hx => .inr (Nat.le_trans hkd.size (hO5'.lt x hx).1))
  refine hK _ _ (fun q hq _ _ => HR.out _ hk16 q hq) ?_
  clear hK K
  try go_simp
  refine oneU (i := 10) rfl (by kernel_rfl) (fun K hK => ?_)
  rw [if_pos (show Region.wanted _ _ = true from rfl)]
  have e2 : (uvarint ix).length + (uvarint tm).length + l.length = (snB ix tm l).length := by simp [snB]; omega
  have hsn : (snB ix tm l).length ≤ 262144 := by omega
  rw [e2]
  have hO6s : Own w6 w2.heap.size a6 c6 (snB ix tm l) := by
    have : uvarint ix ++ uvarint tm ++ l = snB ix tm l := rfl
    rw [← this]
    exact hO6'
  clear e2 hl12 hO6' hO6
  go_wp2_with fail
  have hF := frame_any a6 c6 (snB ix tm l) w6 hO6s.rb
  rw [if_pos hsn, if_pos hsn] at hF
  refine hF.mono ?_
  rintro e w7 ⟨a7, c7, ev, rfl, hO7, hE7, hk7⟩
  obtain rfl := hE7.zero.2 rfl
  have hk17 := hk16.trans hk7
  simp only []
  refine hK _ _ (fun q hq _ _ => HR.out _ (hk17) q hq) ?_
  clear hK K
  try go_simp
  have hSw := HR.out _ hk17
  refine takeU (i := 11) (v := ?_) rfl (by kernel_rfl) (fun _ _ _ h => h) (Or.inl ⟨by rfl, fun w0 hw0 => ?_⟩) (fun p hp _ => hSw p hp) ?_
  rotate_left
  · simp [Reads] at hw0
    go_simp
    try with_reducible rfl
  try go_simp
  refine takeU (i := 12) (v := ?_) rfl (by kernel_rfl) (fun _ _ _ h => h) (Or.inl ⟨by rfl, fun w0 hw0 => ?_⟩) (fun p hp _ => hSw p hp) ?_
  rotate_left
  · simp [Reads] at hw0
    go_simp
    try with_reducible rfl
  try go_simp
  refine takeU (i := 13) (v := ?_) rfl (by kernel_rfl) (fun _ _ _ h => h) (Or.inl ⟨by rfl, fun w0 hw0 => ?_⟩) (fun p hp _ => hSw p hp) ?_
  rotate_left
  · simp [Reads] at hw0
    go_simp
    try with_reducible rfl
  try go_simp
  refine takeU (i := 14) (v := ?_) rfl (by kernel_rfl) (fun _ _ _ h => h) (Or.inl ⟨by rfl, fun w0 hw0 => ?_⟩) (fun p hp _ => hSw p hp) ?_
  rotate_left
  · simp [Reads] at hw0
    go_simp
    try with_reducible rfl
  try go_simp
  clear hSw HR
  refine doneU (by kernel_rfl) ?_
  have hw7 : sb ≤ w6.heap.size := by have := hkX.size; have := hk16.size; omega
  go_wp2_with fail
  go_ret2
  exact ⟨a7, c7, rfl, hO7.older (by rw [hsb]; exact hw7), hkX.trans hk17⟩

theorem Rb.tail {w : World} {g o c z : Nat} {l : List UInt8} (h : Rb w (some ⟨g, o, none⟩) c l) (hz : z ≤ l.length) (hc : z < c) : Rb w (some ⟨g, o + z, none⟩) (c - z) (l.drop z) := by
  have hD := h.drop (k := z) hz
  rw [if_neg (by omega)] at hD
  have e : (bys l).drop (z * 1) = bys (l.drop z) := by unfold bys; rw [Nat.mul_one, List.map_drop]
  rw [e] at hD
  unfold Rb
  rw [List.length_drop]
  simpa [addr_add] using hD

set_option maxRecDepth 100000 in
set_option maxHeartbeats 4000000 in
theorem decode_any (ix tm : Nat) (ao : Option Addr) (c : Nat) (l : List UInt8) (w : World) (h : Rb w ao c (frame (snB ix tm l))) (hl : l.length ≤ 262080) (hi : ix < 18446744073709551616) (ht : tm < 18446744073709551616) :
    Calls Tryd.prog 61 #[.slice ao (frame (snB ix tm l)).length c] w fun e w' => ∃ bo d, e = .returned (.tuple #[.agg #[.int .u64 (ix : Nat), .int .u64 (tm : Nat), .slice bo l.length d], .nilIface]) ∧ Own w' w.heap.size bo d l ∧ Keeps [] w w' := by
  have hlx := uvarint_length64 hi
  have hlt := uvarint_length64 ht
  have hpx := uvarint_pos ix
  have hpt := uvarint_pos tm
  have hbl : (snB ix tm l).length = (uvarint ix).length + ((uvarint tm).length + l.length) := by simp [snB]
  have hun := frame_back (snB ix tm l) [] (by omega)
  rw [List.append_nil] at hun
  have hX := Blk.fresh w 69 #[.int .u64 0, .int .u64 0, .slice none 0 0]
  have hkX := (Keeps.refl [] w).alloc (.cells #[.int .u64 0, .int .u64 0, .slice none 0 0] 69)
  have hU := unframe_any ao c (frame (snB ix tm l)) _ (h.keep0 hkX)
  rw [hun] at hU
  have HU := Lib.hid hU
  have HBL := Lib.hid hbl
  clear hU hun hbl
  go_enter Tryd.func61, Tryd.ntmps61
  go_wp2_with fail
  refine HU.out.mono ?_
  rintro e w2 ⟨bo, d, ev, rfl, hB2, hE2, hk2⟩
  obtain rfl := hE2.zero.2 rfl
  simp only []
  have hX2 := hX.keep hk2 (by simp)
  have hk02 := hkX.trans hk2
  clear hX hkX hk2 hE2
  generalize hsb : w.heap.size = sb at *
  have h1 := uint_any bo d (snB ix tm l) w2 hB2
  rw [show snB ix tm l = uvarint ix ++ (uvarint tm ++ l) by simp [snB], rdU_put ix _ hi] at h1
  rw [show uvarint ix ++ (uvarint tm ++ l) = snB ix tm l by simp [snB]] at h1
  have H1 := Lib.hid h1
  clear h1
  go_wp2_with fail
  refine H1.out.mono ?_
  rintro e w3 ⟨ev, rfl, -, hev, hk3⟩
  obtain rfl : ev = .nilIface := by simpa using hev
  have hB3 := hB2.keep0 hk3
  have hX3 := hX2.keep hk3 (by simp)
  have hk03 := hk02.trans hk3
  clear hB2 hX2 hk02 hk3 hev
  have hcap := hB3.cap
  have hbl := HBL.out
  obtain ⟨g, o, rfl⟩ := hB3.at (by omega)
  have hR2 := Rb.tail (l := snB ix tm l) hB3 (z := (uvarint ix).length) (by omega) (by omega)
  rw [show (snB ix tm l).drop (uvarint ix).length = uvarint tm ++ l by simp [snB]] at hR2
  have h2 := uint_any _ _ (uvarint tm ++ l) w3 hR2
  rw [rdU_put tm _ ht] at h2
  rw [show (uvarint tm ++ l).length = (uvarint tm).length + l.length by simp] at h2
  have m1 : (0 : Int) ≤ ((uvarint ix).length : Int) := by omega
  have m3 : ((snB ix tm l).length : Int) ≤ (d : Int) := by omega
  have hne : ¬ (d = (uvarint ix).length) := by omega
  have H2 := Lib.hid h2
  have HB3 := Lib.hid hB3
  clear h2 hR2 hB3
  go_wp2_with fail
  refine H2.out.mono ?_
  rintro e w4 ⟨ev, rfl, -, hev, hk4⟩
  obtain rfl : ev = .nilIface := by simpa using hev
  clear hev
  have hX4 := hX3.keep hk4 (by simp)
  have hk04 := hk03.trans hk4
  have hB4 := HB3.out.keep0 hk4
  have q1 : IntKind.i64.wrap (((uvarint ix).length : Int) + ((uvarint tm).length : Int)) = (((uvarint ix).length + (uvarint tm).length : Nat) : Int) := by
    rw [IntWalk.i64_in _ (by omega)]
    omega
  have e3 : (snB ix tm l).length - ((uvarint ix).length + (uvarint tm).length) = l.length := by omega
  obtain ⟨p, hp⟩ : ∃ p, p = (uvarint ix).length + (uvarint tm).length := ⟨_, rfl⟩
  rw [← hp] at q1 e3
  have hlp : (snB ix tm l).length = p + l.length := by omega
  have hdp : (snB ix tm l).drop p = l := by rw [hp]; simp [snB]
  have HDP := Lib.hid (And.intro hdp (And.intro hX4 (And.intro hk04 hB4)))
  have HS4 := Lib.hid hk04.size
  clear hX3 hX4 hk03 hk04 hk4 hbl hB4 hdp e3
  have m4 : (0 : Int) ≤ (p : Int) := by omega
  have m5 : (p : Int) ≤ ((uvarint ix).length : Int) + (((uvarint tm).length : Int) + (l.length : Int)) := by omega
  have m6 : ((uvarint ix).length : Int) + (((uvarint tm).length : Int) + (l.length : Int)) ≤ (d : Int) := by omega
  have fin : ∀ (a : Option Addr) (c' : Nat), Rb w4 a c' l → Calls Tryd.prog 52 #[.slice a l.length c'] w4 fun e w' => ∃ bo d, e = .returned (.slice bo l.length d) ∧ Own w' w4.heap.size bo d l ∧ Keeps [] w4 w' := fun a c' h => clone_own a c' l w4 h (by omega)
  have FIN := Lib.hid fin
  clear fin
  have e3 : (uvarint ix).length + ((uvarint tm).length + l.length) - p = l.length := by omega
  have e4 : (uvarint ix).length + (uvarint tm).length - p = 0 := by omega
  clear hp
  by_cases hd : d = p
  · subst hd
    have hl0 : l = [] := List.eq_nil_of_length_eq_zero (by omega)
    subst hl0
    have m7 : (d : Int) ≤ ((uvarint ix).length : Int) + ((uvarint tm).length : Int) := by simp at m5; omega
    have m8 : ((uvarint ix).length : Int) + ((uvarint tm).length : Int) ≤ (d : Int) := by simp at m6; omega
    clear m5 m6
    have hR : Rb w4 (some ⟨g, o, none⟩) 0 [] := ⟨rfl, by simp, by simp, fun e => by simp at e, fun h => by simp at h, fun _ _ j u hj => by simp [bys] at hj, by simp [bys]⟩
    go_wp2_with fail
    refine (FIN.out _ _ hR).mono ?_
    rintro e w5 ⟨a5, c5, rfl, hO5, hk5⟩
    obtain ⟨hdp, hX4, hk04, hB4⟩ := HDP.out
    have hX5 := hX4.keep hk5 (by simp)
    clear hdp hX4 hB4
    go_wp2_with (refine wpList_store_agg rfl rfl 69 _ _ rfl sb 0 rfl _ rfl 69 _ hX5 Tryd.sizeSnap (by simp) rfl _ rfl ?_; intro w6 hM6 hk6)
    refine bodyPost_ret (results_ct rfl rfl hM6 Tryd.underlying69 rfl Tryd.sizeSnap) rfl ⟨a5, c5, rfl, ?_, ?_⟩
    · refine (hO5.older (by have := HS4.out; omega)).keep hk6 (fun x hx => ?_)
      have h1 := (hO5.lt x hx).1
      have h2 := hX5.lt
      have h3 := hk04.size
      have h4 := HDP.out.2.1.lt
      simp
      omega
    · exact (hk04.trans hk5).step hk6 (fun x hx => .inr (by simp at hx; omega))
  · have hR := Rb.tail (l := snB ix tm l) HDP.out.2.2.2 (z := p) (by omega) (by have := HDP.out.2.2.2.cap; omega)
    rw [HDP.out.1] at hR
    have hF := FIN.out _ _ hR
    have HF := Lib.hid hF
    clear hR hF
    go_wp2_with fail
    refine HF.out.mono ?_
    rintro e w5 ⟨a5, c5, rfl, hO5, hk5⟩
    obtain ⟨hdp, hX4, hk04, hB4⟩ := HDP.out
    have hX5 := hX4.keep hk5 (by simp)
    clear hdp hX4 hB4
    go_wp2_with (refine wpList_store_agg rfl rfl 69 _ _ rfl sb 0 rfl _ rfl 69 _ hX5 Tryd.sizeSnap (by simp) rfl _ rfl ?_; intro w6 hM6 hk6)
    refine bodyPost_ret (results_ct rfl rfl hM6 Tryd.underlying69 rfl Tryd.sizeSnap) rfl ⟨a5, c5, rfl, ?_, ?_⟩
    · refine (hO5.older (by have := HS4.out; omega)).keep hk6 (fun x hx => ?_)
      have h1 := (hO5.lt x hx).1
      have h2 := hX5.lt
      have h3 := hk04.size
      have h4 := HDP.out.2.1.lt
      simp
      omega
    · exact (hk04.trans hk5).step hk6 (fun x hx => .inr (by simp at hx; omega))
end Go.Proofs.YtcebbgmjbincbaaDoor
