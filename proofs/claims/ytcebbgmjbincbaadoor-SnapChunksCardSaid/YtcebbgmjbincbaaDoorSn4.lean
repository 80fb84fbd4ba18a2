/- Snapshots: Chunk; what the laws know at first. -/
import Derived.Test.YtcebbgmjbincbaaDoorSn3

namespace Go.Proofs.YtcebbgmjbincbaaDoor
open Go.RowKit Go.Lib

theorem rdsU2 {W : World} {F1 F2 : World → Prop} {i1 i2 : Nat} (h1 : F1 W) (h2 : F2 W) : ∀ p ∈ [(i1, F1), (i2, F2)], p.2 W := by
  intro p hp
  simp only [List.mem_cons, List.not_mem_nil, or_false] at hp
  rcases hp with rfl | rfl <;> assumption
/-- a piece of bytes, as the model slices it -/
theorem Rb.piece {w : World} {ao : Option Addr} {c : Nat} {l : List UInt8} (h : Rb w ao c l) {z n : Nat} (hz : z + n ≤ l.length) :
    Rb w (if c = z then ao else ao.map (·.add z)) (c - z) ((l.drop z).take n) := by
  have := Rb.part h hz
  exact this

set_option maxRecDepth 100000 in
set_option maxHeartbeats 4000000 in
theorem chunk_any (ix tm : Nat) (ao : Option Addr) (c : Nat) (l : List UInt8) (off : Nat) (w : World) (h : Rb w ao c l) (hl : l.length ≤ 262080) (ho : off ≤ l.length) :
    Calls Tryd.prog 39 #[.agg #[.int .u64 (ix : Nat), .int .u64 (tm : Nat), .slice ao l.length c], .int .i64 (off : Nat)] w fun e w' => ∃ bo d, e = .returned (.tuple #[.slice bo ((l.drop off).take 200).length d, .bool (decide (l.length ≤ off + 200)), .nilIface]) ∧ Own w' w.heap.size bo d ((l.drop off).take 200) ∧ Keeps [] w w' := by
  have hX := Blk.fresh w 69 #[.int .u64 (ix : Nat), .int .u64 (tm : Nat), .slice ao l.length c]
  have hkX := (Keeps.refl [] w).alloc (.cells #[.int .u64 (ix : Nat), .int .u64 (tm : Nat), .slice ao l.length c] 69)
  have m1 : ¬ ((off : Int) < 0) := by omega
  have m2 : ¬ ((l.length : Int) < (off : Int)) := by omega
  have q1 : IntKind.i64.wrap ((off : Int) + 200) = (off : Int) + 200 := IntWalk.i64_in _ (by omega)
  obtain ⟨en, hen⟩ : ∃ en : Nat, en = min (off + 200) l.length := ⟨_, rfl⟩
  have hmn : min ((off : Int) + 200) (l.length : Int) = (en : Int) := by omega
  have hcap := h.cap
  have n1 : (0 : Int) ≤ (off : Int) := by omega
  have n2 : (off : Int) ≤ (en : Int) := by omega
  have n3 : (en : Int) ≤ (c : Int) := by omega
  have HEN := Lib.hid hen
  clear hen
  go_enter Tryd.func39, Tryd.ntmps39
  obtain ⟨bl, hbl⟩ : ∃ bl : Bool, bl = decide (l.length ≤ off + 200) := ⟨_, rfl⟩
  have HB := Lib.hid hbl.symm
  have hbe : ((en : Int) == (l.length : Int)) = bl := by
    rw [hbl, Bool.eq_iff_iff]
    simp only [beq_iff_eq, decide_eq_true_eq]
    have := HEN.out
    omega
  clear hbl
  by_cases hc : c = off
  · have hp : (l.drop off).take 200 = [] := by rw [List.drop_eq_nil_of_le (by have := h.cap; omega)]; rfl
    have FIN := Lib.hid (fun (W : World) (hW : Keeps [] w W) => (clone_own ao 0 [] W ⟨rfl, by simp, by simp, fun _ => rfl, fun h => by simp at h, fun _ _ j u hj => by simp [bys] at hj, by simp [bys]⟩ (by simp)))
    have e0 : en - off = 0 := by have := HEN.out; omega
    have e1 : c - off = 0 := by omega
    rw [hp]
    subst hc
    go_upto_region 4 with (fail)
    generalize World.alloc w _ = w1 at *
    generalize hsb : w.heap.size = sb at *
    have hR0 : (∀ W : World, Keeps [] w1 W → ∀ q ∈ [((1 : Nat), fun w0 : World => w0.cell? ⟨sb, 2, none⟩ = some (.slice ao l.length c)), ((8 : Nat), fun w0 : World => w0.cell? ⟨sb, 2, none⟩ = some (.slice ao l.length c))], q.2 W) := fun W hW => rdsU2 (hW.cellSome (hX.cell 2) (by simp)) (hW.cellSome (hX.cell 2) (by simp))
    have hkd := (Keeps.refl [] w1).drew
    have hSw := hR0 _ hkd
    have HR := Lib.hid hR0
    clear hR0
    refine startU [((1 : Nat), fun w0 : World => w0.cell? ⟨sb, 2, none⟩ = some (.slice ao l.length c)), ((8 : Nat), fun w0 : World => w0.cell? ⟨sb, 2, none⟩ = some (.slice ao l.length c))] (by kernel_rfl) ?_
    generalize w1.drew = w2 at *
    refine takeU (i := 0) (v := ?_) rfl (by kernel_rfl) (fun _ _ _ h => h) (Or.inl ⟨by rfl, fun w0 hw0 => ?_⟩) (fun p hp _ => hSw p hp) ?_
    rotate_left
    · simp [Reads] at hw0
      go_simp
      try with_reducible rfl
    try go_simp
    refine takeU (i := 1) (v := ?_) rfl (by kernel_rfl) (fun _ _ _ h => h) (Or.inl ⟨by rfl, fun w0 hw0 => ?_⟩) (fun p hp _ => hSw p hp) ?_
    rotate_left
    · simp [Reads] at hw0
      go_simp
      try with_reducible rfl
    try go_simp
    refine takeU (i := 2) (v := ?_) rfl (by kernel_rfl) (fun _ _ _ h => h) (Or.inl ⟨by rfl, fun w0 hw0 => ?_⟩) (fun p hp _ => hSw p hp) ?_
    rotate_left
    · simp [Reads] at hw0
      go_simp
      try with_reducible rfl
    try go_simp
    refine takeU (i := 3) (v := ?_) rfl (by kernel_rfl) (fun _ _ _ h => h) (Or.inl ⟨by rfl, fun w0 hw0 => ?_⟩) (fun p hp _ => hSw p hp) ?_
    rotate_left
    · simp [Reads] at hw0
      go_simp
      try with_reducible rfl
    try go_simp
    refine takeU (i := 4) (v := ?_) rfl (by kernel_rfl) (fun _ _ _ h => h) (Or.inl ⟨by rfl, fun w0 hw0 => ?_⟩) (fun p hp _ => hSw p hp) ?_
    rotate_left
    · simp [Reads] at hw0
      go_simp
      try with_reducible rfl
    try go_simp
    refine takeU (i := 6) (v := ?_) rfl (by kernel_rfl) (fun _ _ _ h => h) (Or.inl ⟨by rfl, fun w0 hw0 => ?_⟩) (fun p hp _ => hSw p hp) ?_
    rotate_left
    · simp [Reads] at hw0
      go_simp
      try with_reducible rfl
    try go_simp
    refine takeU (i := 7) (v := ?_) rfl (by kernel_rfl) (fun _ _ _ h => h) (Or.inl ⟨by rfl, fun w0 hw0 => ?_⟩) (fun p hp _ => hSw p hp) ?_
    rotate_left
    · simp [Reads] at hw0
      go_simp
      try with_reducible rfl
    try go_simp
    refine takeU (i := 8) (v := ?_) rfl (by kernel_rfl) (fun _ _ _ h => h) (Or.inl ⟨by rfl, fun w0 hw0 => ?_⟩) (fun p hp _ => hSw p hp) ?_
    rotate_left
    · simp [Reads] at hw0
      go_simp
      try with_reducible rfl
    try go_simp
    refine takeU (i := 9) (v := ?_) rfl (by kernel_rfl) (fun _ _ _ h => h) (Or.inl ⟨by rfl, fun w0 hw0 => ?_⟩) (fun p hp _ => hSw p hp) ?_
    rotate_left
    · simp [Reads] at hw0
      go_simp
      try with_reducible rfl
    try go_simp
    refine takeU (i := 10) (v := ?_) rfl (by kernel_rfl) (fun _ _ _ h => h) (Or.inl ⟨by rfl, fun w0 hw0 => ?_⟩) (fun p hp _ => hSw p hp) ?_
    rotate_left
    · simp [Reads] at hw0
      go_simp
      try with_reducible rfl
    try go_simp
    clear hSw
    refine oneU (i := 5) rfl (by kernel_rfl) (fun K hK => ?_)
    rw [if_pos (show Region.wanted _ _ = true from rfl)]
    go_wp2_with fail
    refine (FIN.out w2 (hkX.trans hkd)).mono ?_
    rintro e w3 ⟨a3, c3, rfl, hO3, hk3⟩
    have hk13 := hkd.trans hk3
    simp only []
    refine hK _ _ (fun q hq _ _ => HR.out _ hk13 q hq) ?_
    clear hK K
    try go_simp
    have hSw := HR.out _ hk13
    refine takeU (i := 11) (v := ?_) rfl (by kernel_rfl) (fun _ _ _ h => h) (Or.inl ⟨by rfl, fun w0 hw0 => ?_⟩) (fun p hp _ => hSw p hp) ?_
    rotate_left
    · simp [Reads] at hw0
      go_simp
      try with_reducible rfl
    try go_simp
    refine takeU (i := 12) (v := ?_) rfl (by kernel_rfl) (fun _ _ _ h => h) (Or.inl ⟨by rfl, fun w0 hw0 => ?_⟩) (fun p hp _ => hSw p hp) ?_
    rotate_left
    · simp [Reads] at hw0
      go_simp
      try with_reducible rfl
    try go_simp
    refine takeU (i := 13) (v := ?_) rfl (by kernel_rfl) (fun _ _ _ h => h) (Or.inl ⟨by rfl, fun w0 hw0 => ?_⟩) (fun p hp _ => hSw p hp) ?_
    rotate_left
    · simp [Reads] at hw0
      go_simp
      try with_reducible rfl
    try go_simp
    clear hSw HR
    refine doneU (by kernel_rfl) ?_
    have hs2 : sb ≤ w2.heap.size := by have := hkX.size; have := hkd.size; omega
    go_wp2_with fail
    go_ret3
    refine ⟨a3, c3, ?_, hO3.older (by rw [hsb]; exact hs2), hkX.trans hk13⟩
    rw [HB.out]
    rfl
  · obtain ⟨bb, oo, rfl⟩ := h.at (by omega)
    have hpl : ((l.drop off).take 200).length = en - off := by rw [List.length_take, List.length_drop]; have := HEN.out; omega
    have FIN := Lib.hid (fun (W : World) (hW : Keeps [] w W) => (by
      have hP := Rb.part h (z := off) (n := en - off) (by have := HEN.out; omega)
      rw [if_neg hc] at hP
      have e : (l.drop off).take (en - off) = (l.drop off).take 200 := by
        have := HEN.out
        rcases (by omega : en - off = 200 ∨ (en - off = l.length - off ∧ l.length - off ≤ 200)) with h1 | ⟨h1, h2⟩
        · rw [h1]
        · rw [h1, List.take_of_length_le (by simp), List.take_of_length_le (by simp; omega)]
      rw [e] at hP
      have e7 : (Option.map (fun x : Addr => x.add off) (some (⟨bb, oo, none⟩ : Addr))) = some ⟨bb, oo + off, none⟩ := by simp [addr_add]
      rw [e7] at hP
      have hP' : Rb W (some ⟨bb, oo + off, none⟩) (c - off) ((l.drop off).take 200) := Sl.keep0 hP hW
      have := clone_own _ _ _ W hP' (by simp; omega)
      rw [hpl] at this
      exact this : Calls Tryd.prog 52 #[.slice (some ⟨bb, oo + off, none⟩) (en - off) (c - off)] W fun e w' => ∃ bo d, e = .returned (.slice bo (en - off) d) ∧ Own w' W.heap.size bo d ((l.drop off).take 200) ∧ Keeps [] W w'))
    rw [hpl]
    go_upto_region 4 with (fail)
    generalize World.alloc w _ = w1 at *
    generalize hsb : w.heap.size = sb at *
    have hR0 : (∀ W : World, Keeps [] w1 W → ∀ q ∈ [((1 : Nat), fun w0 : World => w0.cell? ⟨sb, 2, none⟩ = some (.slice (some ⟨bb, oo, none⟩) l.length c)), ((8 : Nat), fun w0 : World => w0.cell? ⟨sb, 2, none⟩ = some (.slice (some ⟨bb, oo, none⟩) l.length c))], q.2 W) := fun W hW => rdsU2 (hW.cellSome (hX.cell 2) (by simp)) (hW.cellSome (hX.cell 2) (by simp))
    have hkd := (Keeps.refl [] w1).drew
    have hSw := hR0 _ hkd
    have HR := Lib.hid hR0
    clear hR0
    refine startU [((1 : Nat), fun w0 : World => w0.cell? ⟨sb, 2, none⟩ = some (.slice (some ⟨bb, oo, none⟩) l.length c)), ((8 : Nat), fun w0 : World => w0.cell? ⟨sb, 2, none⟩ = some (.slice (some ⟨bb, oo, none⟩) l.length c))] (by kernel_rfl) ?_
    generalize w1.drew = w2 at *
    refine takeU (i := 0) (v := ?_) rfl (by kernel_rfl) (fun _ _ _ h => h) (Or.inl ⟨by rfl, fun w0 hw0 => ?_⟩) (fun p hp _ => hSw p hp) ?_
    rotate_left
    · simp [Reads] at hw0
      go_simp
      try with_reducible rfl
    try go_simp
    refine takeU (i := 1) (v := ?_) rfl (by kernel_rfl) (fun _ _ _ h => h) (Or.inl ⟨by rfl, fun w0 hw0 => ?_⟩) (fun p hp _ => hSw p hp) ?_
    rotate_left
    · simp [Reads] at hw0
      go_simp
      try with_reducible rfl
    try go_simp
    refine takeU (i := 2) (v := ?_) rfl (by kernel_rfl) (fun _ _ _ h => h) (Or.inl ⟨by rfl, fun w0 hw0 => ?_⟩) (fun p hp _ => hSw p hp) ?_
    rotate_left
    · simp [Reads] at hw0
      go_simp
      try with_reducible rfl
    try go_simp
    refine takeU (i := 3) (v := ?_) rfl (by kernel_rfl) (fun _ _ _ h => h) (Or.inl ⟨by rfl, fun w0 hw0 => ?_⟩) (fun p hp _ => hSw p hp) ?_
    rotate_left
    · simp [Reads] at hw0
      go_simp
      try with_reducible rfl
    try go_simp
    refine takeU (i := 4) (v := ?_) rfl (by kernel_rfl) (fun _ _ _ h => h) (Or.inl ⟨by rfl, fun w0 hw0 => ?_⟩) (fun p hp _ => hSw p hp) ?_
    rotate_left
    · simp [Reads] at hw0
      go_simp
      try with_reducible rfl
    try go_simp
    refine takeU (i := 6) (v := ?_) rfl (by kernel_rfl) (fun _ _ _ h => h) (Or.inl ⟨by rfl, fun w0 hw0 => ?_⟩) (fun p hp _ => hSw p hp) ?_
    rotate_left
    · simp [Reads] at hw0
      go_simp
      try with_reducible rfl
    try go_simp
    refine takeU (i := 7) (v := ?_) rfl (by kernel_rfl) (fun _ _ _ h => h) (Or.inl ⟨by rfl, fun w0 hw0 => ?_⟩) (fun p hp _ => hSw p hp) ?_
    rotate_left
    · simp [Reads] at hw0
      go_simp
      try with_reducible rfl
    try go_simp
    refine takeU (i := 8) (v := ?_) rfl (by kernel_rfl) (fun _ _ _ h => h) (Or.inl ⟨by rfl, fun w0 hw0 => ?_⟩) (fun p hp _ => hSw p hp) ?_
    rotate_left
    · simp [Reads] at hw0
      go_simp
      try with_reducible rfl
    try go_simp
    refine takeU (i := 9) (v := ?_) rfl (by kernel_rfl) (fun _ _ _ h => h) (Or.inl ⟨by rfl, fun w0 hw0 => ?_⟩) (fun p hp _ => hSw p hp) ?_
    rotate_left
    · simp [Reads] at hw0
      go_simp
      try with_reducible rfl
    try go_simp
    refine takeU (i := 10) (v := ?_) rfl (by kernel_rfl) (fun _ _ _ h => h) (Or.inl ⟨by rfl, fun w0 hw0 => ?_⟩) (fun p hp _ => hSw p hp) ?_
    rotate_left
    · simp [Reads] at hw0
      go_simp
      try with_reducible rfl
    try go_simp
    clear hSw
    refine oneU (i := 5) rfl (by kernel_rfl) (fun K hK => ?_)
    rw [if_pos (show Region.wanted _ _ = true from rfl)]
    go_wp2_with fail
    refine (FIN.out w2 (hkX.trans hkd)).mono ?_
    rintro e w3 ⟨a3, c3, rfl, hO3, hk3⟩
    have hk13 := hkd.trans hk3
    simp only []
    refine hK _ _ (fun q hq _ _ => HR.out _ hk13 q hq) ?_
    clear hK K
    try go_simp
    have hSw := HR.out _ hk13
    refine takeU (i := 11) (v := ?_) rfl (by kernel_rfl) (fun _ _ _ h => h) (Or.inl ⟨by rfl, fun w0 hw0 => ?_⟩) (fun p hp _ => hSw p hp) ?_
    rotate_left
    · simp [Reads] at hw0
      go_simp
      try with_reducible rfl
    try go_simp
    refine takeU (i := 12) (v := ?_) rfl (by kernel_rfl) (fun _ _ _ h => h) (Or.inl ⟨by rfl, fun w0 hw0 => ?_⟩) (fun p hp _ => hSw p hp) ?_
    rotate_left
    · simp [Reads] at hw0
      go_simp
      try with_reducible rfl
    try go_simp
    refine takeU (i := 13) (v := ?_) rfl (by kernel_rfl) (fun _ _ _ h => h) (Or.inl ⟨by rfl, fun w0 hw0 => ?_⟩) (fun p hp _ => hSw p hp) ?_
    rotate_left
    · simp [Reads] at hw0
      go_simp
      try with_reducible rfl
    try go_simp
    clear hSw HR
    refine doneU (by kernel_rfl) ?_
    have hs2 : sb ≤ w2.heap.size := by have := hkX.size; have := hkd.size; omega
    go_wp2_with fail
    go_ret3
    refine ⟨a3, c3, ?_, hO3.older (by rw [hsb]; exact hs2), hkX.trans hk13⟩
    rw [HB.out]
    rfl
end Go.Proofs.YtcebbgmjbincbaaDoor
