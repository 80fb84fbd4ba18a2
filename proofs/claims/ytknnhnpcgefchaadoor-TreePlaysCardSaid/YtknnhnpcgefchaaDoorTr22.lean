/- Cursors of a tree: Seek, Next. -/
import Derived.Test.YtknnhnpcgefchaaDoorTr21
import Derived.Test.YtknnhnpcgefchaaDoorTr14

namespace Go.Proofs.YtknnhnpcgefchaaDoor
open Go.RowKit Go.Lib

/-- bytes that were cloned -/
theorem bclone (ao : Option Addr) (c : Nat) (l : Bs) (w : World) (h : Rb w ao c l) (hn : l.length ≤ 1000000) :
    Calls Tryd.prog 20 #[.slice ao l.length c] w fun e w' => ∃ a2 c2, e = .returned (.slice a2 l.length c2) ∧ Rb w' a2 c2 l ∧ Fr (fun x => w.heap.size ≤ x) a2 (bys l) ∧ Keeps [] w w' := by
  refine (cloneB ao l.length c (bys l) w h hn).mono ?_
  rintro e w' ⟨a2, c2, rfl, hO, hk⟩
  exact ⟨a2, c2, rfl, own_read hO (bys_one l), fun ad e _ => by subst e; exact (own_lt hO ad.block (by simp)).1, hk⟩

/-- a cursor at c of the tree at t: at key k, or above it; the key's bytes lie in K -/
def CurAt (w : World) (K : Nat → Prop) (c t : Nat) (k : Bs) (ab : Bool) : Prop :=
  ∃ a kc, Blk w c 60 #[.pointer (some ⟨t, 0, none⟩), .slice a k.length kc, .bool ab] ∧ Rb w a kc k ∧ Fr K a (bys k) ∧ k.length ≤ 1000000
section
variable {w w' : World} {F K K' : Nat → Prop} {c t : Nat} {k : Bs} {ab : Bool} {L : List Nat}
theorem CurAt.keep (h : CurAt w K c t k ab) (hk : Keeps L w w') (hc : c ∉ L) (hL : ∀ x ∈ L, ¬ K x) : CurAt w' K c t k ab := by
  obtain ⟨a, kc, h1, h2, h3, h4⟩ := h
  exact ⟨a, kc, h1.keep hk hc, h2.keepF h3 hk hL, h3, h4⟩
theorem CurAt.keep0 (h : CurAt w K c t k ab) (hk : Keeps [] w w') : CurAt w' K c t k ab := h.keep hk (by simp) (by simp)
theorem CurAt.mono (h : CurAt w K c t k ab) (hF : ∀ x, K x → x < w.heap.size → K' x) : CurAt w K' c t k ab := by
  obtain ⟨a, kc, h1, h2, h3, h4⟩ := h
  exact ⟨a, kc, h1, h2, h3.mono h2 hF, h4⟩
theorem CurAt.lt (h : CurAt w K c t k ab) : c < w.heap.size := by obtain ⟨a, kc, h1, _⟩ := h; exact h1.lt
end

theorem built_C (t : Nat) (a : Option Addr) (n c : Nat) : Tryd.prog.built 60 [(0, .pointer (some ⟨t, 0, none⟩)), (1, .slice a n c)] = some #[.pointer (some ⟨t, 0, none⟩), .slice a n c, .bool false] := by kernel_rfl

theorem tseek {w : World} {t : Nat} {ko : Option Addr} {kc : Nat} {k : Bs} (hk : Rb w ko kc k) (hkl : k.length ≤ 1000000) :
    Calls Tryd.prog 7 #[.pointer (some ⟨t, 0, none⟩), .slice ko k.length kc] w fun e w' => ∃ c, e = .returned (.pointer (some ⟨c, 0, none⟩)) ∧ w.heap.size ≤ c ∧ CurAt w' (fun x => w.heap.size ≤ x ∧ x ≠ c) c t k false ∧ Keeps [] w w' := by
  go_enter Tryd.func7, Tryd.ntmps7
  go_wp2_with fail
  refine (bclone ko kc k _ hk hkl).mono ?_
  rintro e w1 ⟨a, c, rfl, hR, hF, hk1⟩
  have bC := built_C t a k.length c
  go_wp2_with fail
  go_ret
  have hk2 := hk1.alloc (.cells #[.pointer (some ⟨t, 0, none⟩), .slice a k.length c, .bool false] 60)
  have hs := hk1.size
  refine ⟨w1.heap.size, rfl, hs, ⟨a, c, Blk.fresh w1 60 _, hR.keep0 ((Keeps.refl [] w1).alloc _), fun ad e hx => ⟨hF ad e hx, ?_⟩, hkl⟩, hk2⟩
  have := hR.lt e hx
  omega

/-- what Next hands back -/
def NextAns (w : World) (F : Nat → Prop) (c t : Nat) (k : Bs) (ab : Bool) (l : List KV) (e : Ending) (w' : World) : Prop :=
  (nxt k ab l = none ∧ e = .returned (.tuple #[.slice none 0 0, .slice none 0 0, .bool false]) ∧ Keeps [] w w') ∨
  (∃ k' v', nxt k ab l = some (k', v') ∧ ∃ a1 c1 a2 c2, e = .returned (.tuple #[.slice a1 k'.length c1, .slice a2 v'.length c2, .bool true]) ∧ Rb w' a1 c1 k' ∧ Fr (fun x => w.heap.size ≤ x) a1 (bys k') ∧ Rb w' a2 c2 v' ∧ Fr (fun x => w.heap.size ≤ x) a2 (bys v') ∧
    CurAt w' F c t k' true ∧ Keeps [c] w w' ∧ k'.length ≤ 1000000 ∧ v'.length ≤ 1000000)

theorem rdsN {W : World} {F1 F2 F3 F4 : World → Prop} {i1 i2 i3 i4 : Nat} (h1 : F1 W) (h2 : F2 W) (h3 : F3 W) (h4 : F4 W) : ∀ p ∈ [(i1, F1), (i2, F2), (i3, F3), (i4, F4)], p.2 W := by
  intro p hp
  simp only [List.mem_cons, List.not_mem_nil, or_false] at hp
  rcases hp with rfl | rfl | rfl | rfl <;> assumption

set_option maxRecDepth 100000 in
set_option maxHeartbeats 4000000 in
theorem cnext {w : World} {F K : Nat → Prop} {c t : Nat} {k : Bs} {ab : Bool} {l : List KV} (h : TreeAt w F t l) (hc : CurAt w K c t k ab) (hFc : ¬ F c) :
    Calls Tryd.prog 13 #[.pointer (some ⟨c, 0, none⟩)] w fun e w' => NextAns w F c t k ab l e w' := by
  obtain ⟨⟨d, root, hB, hN⟩, hFt⟩ := h
  obtain ⟨ka, kc, hC, hR, hFr, hkl⟩ := hc
  have c0 : w.cell? ⟨c, 0, none⟩ = some (.pointer (some ⟨t, 0, none⟩)) := hC.cell 0
  have c1 : w.cell? ⟨c, 1, none⟩ = some (.slice ka k.length kc) := hC.cell 1
  have c2 : w.cell? ⟨c, 2, none⟩ = some (.bool ab) := hC.cell 2
  have c3 : w.cell? ⟨t, 0, none⟩ = some (.pointer (some ⟨root, 0, none⟩)) := hB.cell 0
  go_enter Tryd.func13, Tryd.ntmps13
  go_upto_region 1 with (fail)
  have HR0 : (∀ W : World, Keeps [] w W → ∀ q ∈ [((3 : Nat), fun w0 : World => w0.cell? ⟨c, 0, none⟩ = some (.pointer (some ⟨t, 0, none⟩))), ((6 : Nat), fun w0 : World => w0.cell? ⟨t, 0, none⟩ = some (.pointer (some ⟨root, 0, none⟩))), ((10 : Nat), fun w0 : World => w0.cell? ⟨c, 1, none⟩ = some (.slice ka k.length kc)), ((14 : Nat), fun w0 : World => w0.cell? ⟨c, 2, none⟩ = some (.bool ab))], q.2 W) := fun W hW => rdsN (hW.cellSome c0 (by simp)) (hW.cellSome c3 (by simp)) (hW.cellSome c1 (by simp)) (hW.cellSome c2 (by simp))
  have hkd := (Keeps.refl [] w).drew
  have hSw := HR0 _ hkd
  have HR := Lib.hid HR0
  clear HR0 c0 c1 c2 c3
  refine startU [((3 : Nat), fun w0 : World => w0.cell? ⟨c, 0, none⟩ = some (.pointer (some ⟨t, 0, none⟩))), ((6 : Nat), fun w0 : World => w0.cell? ⟨t, 0, none⟩ = some (.pointer (some ⟨root, 0, none⟩))), ((10 : Nat), fun w0 : World => w0.cell? ⟨c, 1, none⟩ = some (.slice ka k.length kc)), ((14 : Nat), fun w0 : World => w0.cell? ⟨c, 2, none⟩ = some (.bool ab))] (by kernel_rfl) ?_
  generalize w.drew = w0 at *
  refine takeU (i := 0) (v := ?_) rfl (by kernel_rfl) (fun _ _ _ h => h) (Or.inl ⟨by rfl, fun w0 hw0 => ?_⟩) (fun p hp _ => hSw p hp) ?_
  rotate_left
  · simp [Reads] at hw0
    go_simp
    try with_reducible rfl
  try go_simp
  refine takeU (i := 1) (v := ?_) rfl (by kernel_rfl) (fun _ _ _ h => h) (Or.inl ⟨by rfl, fun w0 hw0 => ?_⟩) (fun p hp _ => hSw p hp) ?_
  rotate_left
  · simp [Reads] at hw0
    go_simp
    try with_reducible rfl
  try go_simp
  refine takeU (i := 2) (v := ?_) rfl (by kernel_rfl) (fun _ _ _ h => h) (Or.inl ⟨by rfl, fun w0 hw0 => ?_⟩) (fun p hp _ => hSw p hp) ?_
  rotate_left
  · simp [Reads] at hw0
    go_simp
    try with_reducible rfl
  try go_simp
  refine takeU (i := 3) (v := ?_) rfl (by kernel_rfl) (fun _ _ _ h => h) (Or.inl ⟨by rfl, fun w0 hw0 => ?_⟩) (fun p hp _ => hSw p hp) ?_
  rotate_left
  · simp [Reads] at hw0
    go_simp
    try with_reducible rfl
  try go_simp
  refine takeU (i := 4) (v := ?_) rfl (by kernel_rfl) (fun _ _ _ h => h) (Or.inl ⟨by rfl, fun w0 hw0 => ?_⟩) (fun p hp _ => hSw p hp) ?_
  rotate_left
  · simp [Reads] at hw0
    go_simp
    try with_reducible rfl
  try go_simp
  refine takeU (i := 5) (v := ?_) rfl (by kernel_rfl) (fun _ _ _ h => h) (Or.inl ⟨by rfl, fun w0 hw0 => ?_⟩) (fun p hp _ => hSw p hp) ?_
  rotate_left
  · simp [Reads] at hw0
    go_simp
    try with_reducible rfl
  try go_simp
  refine takeU (i := 6) (v := ?_) rfl (by kernel_rfl) (fun _ _ _ h => h) (Or.inl ⟨by rfl, fun w0 hw0 => ?_⟩) (fun p hp _ => hSw p hp) ?_
  rotate_left
  · simp [Reads] at hw0
    go_simp
    try with_reducible rfl
  try go_simp
  refine takeU (i := 7) (v := ?_) rfl (by kernel_rfl) (fun _ _ _ h => h) (Or.inl ⟨by rfl, fun w0 hw0 => ?_⟩) (fun p hp _ => hSw p hp) ?_
  rotate_left
  · simp [Reads] at hw0
    go_simp
    try with_reducible rfl
  try go_simp
  refine takeU (i := 8) (v := ?_) rfl (by kernel_rfl) (fun _ _ _ h => h) (Or.inl ⟨by rfl, fun w0 hw0 => ?_⟩) (fun p hp _ => hSw p hp) ?_
  rotate_left
  · simp [Reads] at hw0
    go_simp
    try with_reducible rfl
  try go_simp
  refine takeU (i := 9) (v := ?_) rfl (by kernel_rfl) (fun _ _ _ h => h) (Or.inl ⟨by rfl, fun w0 hw0 => ?_⟩) (fun p hp _ => hSw p hp) ?_
  rotate_left
  · simp [Reads] at hw0
    go_simp
    try with_reducible rfl
  try go_simp
  refine takeU (i := 10) (v := ?_) rfl (by kernel_rfl) (fun _ _ _ h => h) (Or.inl ⟨by rfl, fun w0 hw0 => ?_⟩) (fun p hp _ => hSw p hp) ?_
  rotate_left
  · simp [Reads] at hw0
    go_simp
    try with_reducible rfl
  try go_simp
  refine takeU (i := 11) (v := ?_) rfl (by kernel_rfl) (fun _ _ _ h => h) (Or.inl ⟨by rfl, fun w0 hw0 => ?_⟩) (fun p hp _ => hSw p hp) ?_
  rotate_left
  · simp [Reads] at hw0
    go_simp
    try with_reducible rfl
  try go_simp
  refine takeU (i := 12) (v := ?_) rfl (by kernel_rfl) (fun _ _ _ h => h) (Or.inl ⟨by rfl, fun w0 hw0 => ?_⟩) (fun p hp _ => hSw p hp) ?_
  rotate_left
  · simp [Reads] at hw0
    go_simp
    try with_reducible rfl
  try go_simp
  refine takeU (i := 13) (v := ?_) rfl (by kernel_rfl) (fun _ _ _ h => h) (Or.inl ⟨by rfl, fun w0 hw0 => ?_⟩) (fun p hp _ => hSw p hp) ?_
  rotate_left
  · simp [Reads] at hw0
    go_simp
    try with_reducible rfl
  try go_simp
  refine takeU (i := 14) (v := ?_) rfl (by kernel_rfl) (fun _ _ _ h => h) (Or.inl ⟨by rfl, fun w0 hw0 => ?_⟩) (fun p hp _ => hSw p hp) ?_
  rotate_left
  · simp [Reads] at hw0
    go_simp
    try with_reducible rfl
  try go_simp
  clear hSw
  refine twoU (i := 15) (j := 19) rfl rfl (by kernel_rfl) (fun K hK => ?_) (fun K hK => ?_)
  · rw [if_pos (show Region.wanted _ _ = true from rfl)]
    go_wp2_with fail
    refine (nnext d _ (fun y => F y ∧ y < w.heap.size) (if d = 0 then 0 else 2) 16 root [] l ka kc k ab ((hN.mono (fun x hx hlt => (⟨hx, hlt⟩ : F x ∧ x < w.heap.size))).keep0 hkd) (by omega) (hR.keep0 hkd)).mono ?_
    rintro e w1 ⟨hk1, hres⟩
    have hk01 := hkd.trans hk1
    rcases hres with ⟨hno, rfl⟩ | ⟨q, hyes, hq, rfl⟩
    · simp only []
      refine hK _ _ (fun q hq _ _ => HR.out _ (hk01) q hq) ?_
      clear hK K
      try go_simp
      have hSw := HR.out _ hk01
      refine takeU (i := 16) (v := ?_) rfl (by kernel_rfl) (fun _ _ _ h => h) (Or.inl ⟨by rfl, fun w0 hw0 => ?_⟩) (fun p hp _ => hSw p hp) ?_
      rotate_left
      · simp [Reads] at hw0
        go_simp
        try with_reducible rfl
      try go_simp
      refine takeU (i := 17) (v := ?_) rfl (by kernel_rfl) (fun _ _ _ h => h) (Or.inl ⟨by rfl, fun w0 hw0 => ?_⟩) (fun p hp _ => hSw p hp) ?_
      rotate_left
      · simp [Reads] at hw0
        go_simp
        try with_reducible rfl
      try go_simp
      refine takeU (i := 18) (v := ?_) rfl (by kernel_rfl) (fun _ _ _ h => h) (Or.inl ⟨by rfl, fun w0 hw0 => ?_⟩) (fun p hp _ => hSw p hp) ?_
      rotate_left
      · simp [Reads] at hw0
        go_simp
        try with_reducible rfl
      try go_simp
      clear hSw
      refine oneU (i := 19) rfl (by kernel_rfl) (fun K hK => ?_)
      go_simp
      refine hK _ _ (fun q hq _ _ => HR.out _ (hk01.alloc _) q hq) ?_
      clear hK K
      try go_simp
      have hX := Blk.fresh w1 64 #[.slice none 0 0, .slice none 0 0]
      have hk2 := hk01.alloc (.cells #[.slice none 0 0, .slice none 0 0] 64)
      have hk12 := (Keeps.refl [] w1).alloc (.cells #[.slice none 0 0, .slice none 0 0] 64)
      have hxb := hk01.size
      generalize World.alloc w1 _ = w2 at *
      generalize w1.heap.size = xb at *
      have hcx := hX.cell
      have hfx := hX.free
      have hlx := hX.lt
      refine oneU (i := 20) rfl (by kernel_rfl) (fun K hK => ?_)
      go_simp
      have hkS := (hk2.set (p := ⟨xb, 0, none⟩) (.inr hxb) (.slice none 0 0)).set (p := ⟨xb, 1, none⟩) (.inr hxb) (.slice none 0 0)
      refine hK _ _ (fun q hq _ _ => HR.out _ hkS q hq) ?_
      clear hK K
      try go_simp
      have hSw := HR.out _ hkS
      refine takeU (i := 21) (v := ?_) rfl (by kernel_rfl) (fun _ _ _ h => h) (Or.inl ⟨by rfl, fun w0 hw0 => ?_⟩) (fun p hp _ => hSw p hp) ?_
      rotate_left
      · simp [Reads] at hw0
        go_simp
        try with_reducible rfl
      try go_simp
      clear hSw
      refine doneU (by kernel_rfl) ?_
      clear hcx hfx hlx
      go_wp2_with fail
      go_ret3
      exact .inl ⟨hno, rfl, hkS⟩
    · simp only []
      refine hK _ _ (fun q hq _ _ => HR.out _ (hk01) q hq) ?_
      clear hK K
      try go_simp
      have hSw := HR.out _ hk01
      refine takeU (i := 16) (v := ?_) rfl (by kernel_rfl) (fun _ _ _ h => h) (Or.inl ⟨by rfl, fun w0 hw0 => ?_⟩) (fun p hp _ => hSw p hp) ?_
      rotate_left
      · simp [Reads] at hw0
        go_simp
        try with_reducible rfl
      try go_simp
      refine takeU (i := 17) (v := ?_) rfl (by kernel_rfl) (fun _ _ _ h => h) (Or.inl ⟨by rfl, fun w0 hw0 => ?_⟩) (fun p hp _ => hSw p hp) ?_
      rotate_left
      · simp [Reads] at hw0
        go_simp
        try with_reducible rfl
      try go_simp
      refine takeU (i := 18) (v := ?_) rfl (by kernel_rfl) (fun _ _ _ h => h) (Or.inl ⟨by rfl, fun w0 hw0 => ?_⟩) (fun p hp _ => hSw p hp) ?_
      rotate_left
      · simp [Reads] at hw0
        go_simp
        try with_reducible rfl
      try go_simp
      clear hSw
      refine oneU (i := 19) rfl (by kernel_rfl) (fun K hK => ?_)
      go_simp
      refine hK _ _ (fun q hq _ _ => HR.out _ (hk01.alloc _) q hq) ?_
      clear hK K
      try go_simp
      have hX := Blk.fresh w1 64 #[.slice none 0 0, .slice none 0 0]
      have hk2 := hk01.alloc (.cells #[.slice none 0 0, .slice none 0 0] 64)
      have hk12 := (Keeps.refl [] w1).alloc (.cells #[.slice none 0 0, .slice none 0 0] 64)
      have hxb := hk01.size
      generalize World.alloc w1 _ = w2 at *
      generalize w1.heap.size = xb at *
      replace hq := hq.keep0 hk12
      have hcx := hX.cell
      have hfx := hX.free
      have hlx := hX.lt
      refine oneU (i := 20) rfl (by kernel_rfl) (fun K hK => ?_)
      go_simp
      have hkS := (hk2.set (p := ⟨xb, 0, none⟩) (.inr hxb) (.slice q.ka q.k.length q.kc)).set (p := ⟨xb, 1, none⟩) (.inr hxb) (.slice q.va q.v.length q.vc)
      refine hK _ _ (fun q hq _ _ => HR.out _ hkS q hq) ?_
      clear hK K
      try go_simp
      have hSw := HR.out _ hkS
      refine takeU (i := 21) (v := ?_) rfl (by kernel_rfl) (fun _ _ _ h => h) (Or.inl ⟨by rfl, fun w0 hw0 => ?_⟩) (fun p hp _ => hSw p hp) ?_
      rotate_left
      · simp [Reads] at hw0
        go_simp
        try with_reducible rfl
      try go_simp
      clear hSw
      refine doneU (by kernel_rfl) ?_
      clear hcx hfx hlx HR
      have hX3 : Blk ((w2.setCell ⟨xb, 0, none⟩ (.slice q.ka q.k.length q.kc)).setCell ⟨xb, 1, none⟩ (.slice q.va q.v.length q.vc)) xb 64 q.cells := ((hX.put 0 (.slice q.ka q.k.length q.kc)).put 1 (.slice q.va q.v.length q.vc)).eq (by simp)
      have hq3 : PrOk ((w2.setCell ⟨xb, 0, none⟩ (.slice q.ka q.k.length q.kc)).setCell ⟨xb, 1, none⟩ (.slice q.va q.v.length q.vc)) (fun y => F y ∧ y < w.heap.size) q := hq.keep (((Keeps.refl [xb] w2).set (p := ⟨xb, 0, none⟩) (.inl (by simp)) (.slice q.ka q.k.length q.kc)).set (p := ⟨xb, 1, none⟩) (.inl (by simp)) (.slice q.va q.v.length q.vc)) (fun x hx hF => by simp at hx; omega)
      generalize World.setCell (World.setCell w2 _ _) _ _ = w3 at *
      have hC3 := hC.keep hkS (by simp)
      have x0 : w3.cell? ⟨xb, 0, none⟩ = some (.slice q.ka q.k.length q.kc) := hX3.cell 0
      have x1 : w3.cell? ⟨xb, 1, none⟩ = some (.slice q.va q.v.length q.vc) := hX3.cell 1
      have hcl := hC3.lt
      have hxl := hX3.lt
      have hcf := hC3.free
      have hcc := hC3.cell
      go_upto_region 5 with (fail)
      have hC4 := ((hC3.put 1 (.slice q.ka q.k.length q.kc)).put 2 (.bool true)).eq (cs' := #[.pointer (some ⟨t, 0, none⟩), .slice q.ka q.k.length q.kc, .bool true]) (by simp)
      have hk34 := ((Keeps.refl [c] w3).set (p := ⟨c, 1, none⟩) (.inl (by simp)) (.slice q.ka q.k.length q.kc)).set (p := ⟨c, 2, none⟩) (.inl (by simp)) (.bool true)
      have hcxb : xb ≠ c := by have := hC.lt; omega
      generalize World.setCell (World.setCell w3 _ _) _ _ = w4 at *
      have hX4 := hX3.keep hk34 (by simpa using hcxb)
      have hq4 := hq3.keep hk34 (fun x hx hF => by simp at hx; subst hx; exact hFc hF.1)
      clear x0 x1 hcl hxl hcf hcc hX3 hq3 hC3
      have x0 : w4.cell? ⟨xb, 0, none⟩ = some (.slice q.ka q.k.length q.kc) := hX4.cell 0
      have x1 : w4.cell? ⟨xb, 1, none⟩ = some (.slice q.va q.v.length q.vc) := hX4.cell 1
      have HR0 : (∀ W : World, Keeps [] w4 W → ∀ p0 ∈ [((1 : Nat), fun w0 : World => w0.cell? ⟨xb, 0, none⟩ = some (.slice q.ka q.k.length q.kc)), ((4 : Nat), fun w0 : World => w0.cell? ⟨xb, 1, none⟩ = some (.slice q.va q.v.length q.vc))], p0.2 W) := fun W hW => rds2 (hW.cellSome x0 (by simp)) (hW.cellSome x1 (by simp))
      have hkd4 := (Keeps.refl [] w4).drew
      have hSw := HR0 _ hkd4
      have HR := Lib.hid HR0
      clear HR0 x0 x1
      refine startU [((1 : Nat), fun w0 : World => w0.cell? ⟨xb, 0, none⟩ = some (.slice q.ka q.k.length q.kc)), ((4 : Nat), fun w0 : World => w0.cell? ⟨xb, 1, none⟩ = some (.slice q.va q.v.length q.vc))] (by kernel_rfl) ?_
      generalize w4.drew = w5 at *
      refine takeU (i := 0) (v := ?_) rfl (by kernel_rfl) (fun _ _ _ h => h) (Or.inl ⟨by rfl, fun w0 hw0 => ?_⟩) (fun p hp _ => hSw p hp) ?_
      rotate_left
      · simp [Reads] at hw0
        go_simp
        try with_reducible rfl
      try go_simp
      refine takeU (i := 1) (v := ?_) rfl (by kernel_rfl) (fun _ _ _ h => h) (Or.inl ⟨by rfl, fun w0 hw0 => ?_⟩) (fun p hp _ => hSw p hp) ?_
      rotate_left
      · simp [Reads] at hw0
        go_simp
        try with_reducible rfl
      try go_simp
      refine takeU (i := 3) (v := ?_) rfl (by kernel_rfl) (fun _ _ _ h => h) (Or.inl ⟨by rfl, fun w0 hw0 => ?_⟩) (fun p hp _ => hSw p hp) ?_
      rotate_left
      · simp [Reads] at hw0
        go_simp
        try with_reducible rfl
      try go_simp
      refine takeU (i := 4) (v := ?_) rfl (by kernel_rfl) (fun _ _ _ h => h) (Or.inl ⟨by rfl, fun w0 hw0 => ?_⟩) (fun p hp _ => hSw p hp) ?_
      rotate_left
      · simp [Reads] at hw0
        go_simp
        try with_reducible rfl
      try go_simp
      clear hSw
      refine oneU (i := 2) rfl (by kernel_rfl) (fun K hK => ?_)
      rw [if_pos (show Region.wanted _ _ = true from rfl)]
      go_wp2_with fail
      refine (bclone q.ka q.kc q.k _ (hq4.k.keep0 hkd4) hq4.lk).mono ?_
      rintro e w6 ⟨a1, c1, rfl, hr1, hf1, hk6⟩
      simp only []
      have hk46 := hkd4.trans hk6
      refine hK _ _ (fun q hq _ _ => HR.out _ hk46 q hq) ?_
      clear hK K
      try go_simp
      refine oneU (i := 5) rfl (by kernel_rfl) (fun K hK => ?_)
      rw [if_pos (show Region.wanted _ _ = true from rfl)]
      go_wp2_with fail
      refine (bclone q.va q.vc q.v _ (hq4.v.keep0 hk46) hq4.lv).mono ?_
      rintro e w7 ⟨a2, c2, rfl, hr2, hf2, hk7⟩
      simp only []
      have hk47 := hk46.trans hk7
      refine hK _ _ (fun q hq _ _ => HR.out _ hk47 q hq) ?_
      clear hK K
      try go_simp
      have hSw := HR.out _ hk47
      refine takeU (i := 6) (v := ?_) rfl (by kernel_rfl) (fun _ _ _ h => h) (Or.inl ⟨by rfl, fun w0 hw0 => ?_⟩) (fun p hp _ => hSw p hp) ?_
      rotate_left
      · simp [Reads] at hw0
        go_simp
        try with_reducible rfl
      try go_simp
      refine takeU (i := 7) (v := ?_) rfl (by kernel_rfl) (fun _ _ _ h => h) (Or.inl ⟨by rfl, fun w0 hw0 => ?_⟩) (fun p hp _ => hSw p hp) ?_
      rotate_left
      · simp [Reads] at hw0
        go_simp
        try with_reducible rfl
      try go_simp
      refine takeU (i := 8) (v := ?_) rfl (by kernel_rfl) (fun _ _ _ h => h) (Or.inl ⟨by rfl, fun w0 hw0 => ?_⟩) (fun p hp _ => hSw p hp) ?_
      rotate_left
      · simp [Reads] at hw0
        go_simp
        try with_reducible rfl
      try go_simp
      refine doneU (by kernel_rfl) ?_
      have HY := Lib.hid hyes
      clear hSw HR hyes
      go_wp2_with fail
      go_ret3
      have hs3 := hkS.size
      have hs4 := hk34.size
      have hs5 := hkd4.size
      have hs6 := hk46.size
      refine .inr ⟨q.k, q.v, HY.out, a1, c1, a2, c2, rfl, hr1.keep0 hk7, fun ad e hx => Nat.le_trans (by omega) (hf1 ad e hx), hr2, fun ad e hx => Nat.le_trans (by omega) (hf2 ad e hx), ⟨q.ka, q.kc, hC4.keep hk47 (by simp), hq4.k.keep0 hk47, ?_, hq4.lk⟩, ((hkS.of_nil).trans (hk34.trans hk47.of_nil)), hq4.lk, hq4.lv⟩
      exact hq4.fk.mono hq4.k (fun x hx _ => hx.1)
  · rw [if_pos (show Region.wanted _ _ = true from rfl)]
    go_simp
    refine hK _ _ (fun q hq _ _ => HR.out _ (hkd.alloc _) q hq) ?_
    clear hK K
    try go_simp
    have hX := Blk.fresh w0 64 #[.slice none 0 0, .slice none 0 0]
    have hk1 := hkd.alloc (.cells #[.slice none 0 0, .slice none 0 0] 64)
    have hxb := hkd.size
    generalize World.alloc w0 _ = w1 at *
    generalize w0.heap.size = xb at *
    refine oneU (i := 15) rfl (by kernel_rfl) (fun K hK => ?_)
    rw [if_pos (show Region.wanted _ _ = true from rfl)]
    go_wp2_with fail
    refine (nnext d _ (fun y => F y ∧ y < w.heap.size) (if d = 0 then 0 else 2) 16 root [] l ka kc k ab ((hN.mono (fun x hx hlt => (⟨hx, hlt⟩ : F x ∧ x < w.heap.size))).keep0 hk1) (by omega) (hR.keep0 hk1)).mono ?_
    rintro e w2 ⟨hk12, hres⟩
    have hk2 := hk1.trans hk12
    replace hX := hX.keep hk12 (by simp)
    rcases hres with ⟨hno, rfl⟩ | ⟨q, hyes, hq, rfl⟩
    · simp only []
      refine hK _ _ (fun q hq _ _ => HR.out _ (hk2) q hq) ?_
      clear hK K
      try go_simp
      have hSw := HR.out _ hk2
      refine takeU (i := 16) (v := ?_) rfl (by kernel_rfl) (fun _ _ _ h => h) (Or.inl ⟨by rfl, fun w0 hw0 => ?_⟩) (fun p hp _ => hSw p hp) ?_
      rotate_left
      · simp [Reads] at hw0
        go_simp
        try with_reducible rfl
      try go_simp
      refine takeU (i := 17) (v := ?_) rfl (by kernel_rfl) (fun _ _ _ h => h) (Or.inl ⟨by rfl, fun w0 hw0 => ?_⟩) (fun p hp _ => hSw p hp) ?_
      rotate_left
      · simp [Reads] at hw0
        go_simp
        try with_reducible rfl
      try go_simp
      refine takeU (i := 18) (v := ?_) rfl (by kernel_rfl) (fun _ _ _ h => h) (Or.inl ⟨by rfl, fun w0 hw0 => ?_⟩) (fun p hp _ => hSw p hp) ?_
      rotate_left
      · simp [Reads] at hw0
        go_simp
        try with_reducible rfl
      try go_simp
      clear hSw
      have hcx := hX.cell
      have hfx := hX.free
      have hlx := hX.lt
      refine oneU (i := 20) rfl (by kernel_rfl) (fun K hK => ?_)
      go_simp
      have hkS := (hk2.set (p := ⟨xb, 0, none⟩) (.inr hxb) (.slice none 0 0)).set (p := ⟨xb, 1, none⟩) (.inr hxb) (.slice none 0 0)
      refine hK _ _ (fun q hq _ _ => HR.out _ hkS q hq) ?_
      clear hK K
      try go_simp
      have hSw := HR.out _ hkS
      refine takeU (i := 21) (v := ?_) rfl (by kernel_rfl) (fun _ _ _ h => h) (Or.inl ⟨by rfl, fun w0 hw0 => ?_⟩) (fun p hp _ => hSw p hp) ?_
      rotate_left
      · simp [Reads] at hw0
        go_simp
        try with_reducible rfl
      try go_simp
      clear hSw
      refine doneU (by kernel_rfl) ?_
      clear hcx hfx hlx
      go_wp2_with fail
      go_ret3
      exact .inl ⟨hno, rfl, hkS⟩
    · simp only []
      refine hK _ _ (fun q hq _ _ => HR.out _ (hk2) q hq) ?_
      clear hK K
      try go_simp
      have hSw := HR.out _ hk2
      refine takeU (i := 16) (v := ?_) rfl (by kernel_rfl) (fun _ _ _ h => h) (Or.inl ⟨by rfl, fun w0 hw0 => ?_⟩) (fun p hp _ => hSw p hp) ?_
      rotate_left
      · simp [Reads] at hw0
        go_simp
        try with_reducible rfl
      try go_simp
      refine takeU (i := 17) (v := ?_) rfl (by kernel_rfl) (fun _ _ _ h => h) (Or.inl ⟨by rfl, fun w0 hw0 => ?_⟩) (fun p hp _ => hSw p hp) ?_
      rotate_left
      · simp [Reads] at hw0
        go_simp
        try with_reducible rfl
      try go_simp
      refine takeU (i := 18) (v := ?_) rfl (by kernel_rfl) (fun _ _ _ h => h) (Or.inl ⟨by rfl, fun w0 hw0 => ?_⟩) (fun p hp _ => hSw p hp) ?_
      rotate_left
      · simp [Reads] at hw0
        go_simp
        try with_reducible rfl
      try go_simp
      clear hSw
      have hcx := hX.cell
      have hfx := hX.free
      have hlx := hX.lt
      refine oneU (i := 20) rfl (by kernel_rfl) (fun K hK => ?_)
      go_simp
      have hkS := (hk2.set (p := ⟨xb, 0, none⟩) (.inr hxb) (.slice q.ka q.k.length q.kc)).set (p := ⟨xb, 1, none⟩) (.inr hxb) (.slice q.va q.v.length q.vc)
      refine hK _ _ (fun q hq _ _ => HR.out _ hkS q hq) ?_
      clear hK K
      try go_simp
      have hSw := HR.out _ hkS
      refine takeU (i := 21) (v := ?_) rfl (by kernel_rfl) (fun _ _ _ h => h) (Or.inl ⟨by rfl, fun w0 hw0 => ?_⟩) (fun p hp _ => hSw p hp) ?_
      rotate_left
      · simp [Reads] at hw0
        go_simp
        try with_reducible rfl
      try go_simp
      clear hSw
      refine doneU (by kernel_rfl) ?_
      clear hcx hfx hlx HR
      have hX3 : Blk ((w2.setCell ⟨xb, 0, none⟩ (.slice q.ka q.k.length q.kc)).setCell ⟨xb, 1, none⟩ (.slice q.va q.v.length q.vc)) xb 64 q.cells := ((hX.put 0 (.slice q.ka q.k.length q.kc)).put 1 (.slice q.va q.v.length q.vc)).eq (by simp)
      have hq3 : PrOk ((w2.setCell ⟨xb, 0, none⟩ (.slice q.ka q.k.length q.kc)).setCell ⟨xb, 1, none⟩ (.slice q.va q.v.length q.vc)) (fun y => F y ∧ y < w.heap.size) q := hq.keep (((Keeps.refl [xb] w2).set (p := ⟨xb, 0, none⟩) (.inl (by simp)) (.slice q.ka q.k.length q.kc)).set (p := ⟨xb, 1, none⟩) (.inl (by simp)) (.slice q.va q.v.length q.vc)) (fun x hx hF => by simp at hx; omega)
      generalize World.setCell (World.setCell w2 _ _) _ _ = w3 at *
      have hC3 := hC.keep hkS (by simp)
      have x0 : w3.cell? ⟨xb, 0, none⟩ = some (.slice q.ka q.k.length q.kc) := hX3.cell 0
      have x1 : w3.cell? ⟨xb, 1, none⟩ = some (.slice q.va q.v.length q.vc) := hX3.cell 1
      have hcl := hC3.lt
      have hxl := hX3.lt
      have hcf := hC3.free
      have hcc := hC3.cell
      go_upto_region 5 with (fail)
      have hC4 := ((hC3.put 1 (.slice q.ka q.k.length q.kc)).put 2 (.bool true)).eq (cs' := #[.pointer (some ⟨t, 0, none⟩), .slice q.ka q.k.length q.kc, .bool true]) (by simp)
      have hk34 := ((Keeps.refl [c] w3).set (p := ⟨c, 1, none⟩) (.inl (by simp)) (.slice q.ka q.k.length q.kc)).set (p := ⟨c, 2, none⟩) (.inl (by simp)) (.bool true)
      have hcxb : xb ≠ c := by have := hC.lt; omega
      generalize World.setCell (World.setCell w3 _ _) _ _ = w4 at *
      have hX4 := hX3.keep hk34 (by simpa using hcxb)
      have hq4 := hq3.keep hk34 (fun x hx hF => by simp at hx; subst hx; exact hFc hF.1)
      clear x0 x1 hcl hxl hcf hcc hX3 hq3 hC3
      have x0 : w4.cell? ⟨xb, 0, none⟩ = some (.slice q.ka q.k.length q.kc) := hX4.cell 0
      have x1 : w4.cell? ⟨xb, 1, none⟩ = some (.slice q.va q.v.length q.vc) := hX4.cell 1
      have HR0 : (∀ W : World, Keeps [] w4 W → ∀ p0 ∈ [((1 : Nat), fun w0 : World => w0.cell? ⟨xb, 0, none⟩ = some (.slice q.ka q.k.length q.kc)), ((4 : Nat), fun w0 : World => w0.cell? ⟨xb, 1, none⟩ = some (.slice q.va q.v.length q.vc))], p0.2 W) := fun W hW => rds2 (hW.cellSome x0 (by simp)) (hW.cellSome x1 (by simp))
      have hkd4 := (Keeps.refl [] w4).drew
      have hSw := HR0 _ hkd4
      have HR := Lib.hid HR0
      clear HR0 x0 x1
      refine startU [((1 : Nat), fun w0 : World => w0.cell? ⟨xb, 0, none⟩ = some (.slice q.ka q.k.length q.kc)), ((4 : Nat), fun w0 : World => w0.cell? ⟨xb, 1, none⟩ = some (.slice q.va q.v.length q.vc))] (by kernel_rfl) ?_
      generalize w4.drew = w5 at *
      refine takeU (i := 0) (v := ?_) rfl (by kernel_rfl) (fun _ _ _ h => h) (Or.inl ⟨by rfl, fun w0 hw0 => ?_⟩) (fun p hp _ => hSw p hp) ?_
      rotate_left
      · simp [Reads] at hw0
        go_simp
        try with_reducible rfl
      try go_simp
      refine takeU (i := 1) (v := ?_) rfl (by kernel_rfl) (fun _ _ _ h => h) (Or.inl ⟨by rfl, fun w0 hw0 => ?_⟩) (fun p hp _ => hSw p hp) ?_
      rotate_left
      · simp [Reads] at hw0
        go_simp
        try with_reducible rfl
      try go_simp
      refine takeU (i := 3) (v := ?_) rfl (by kernel_rfl) (fun _ _ _ h => h) (Or.inl ⟨by rfl, fun w0 hw0 => ?_⟩) (fun p hp _ => hSw p hp) ?_
      rotate_left
      · simp [Reads] at hw0
        go_simp
        try with_reducible rfl
      try go_simp
      refine takeU (i := 4) (v := ?_) rfl (by kernel_rfl) (fun _ _ _ h => h) (Or.inl ⟨by rfl, fun w0 hw0 => ?_⟩) (fun p hp _ => hSw p hp) ?_
      rotate_left
      · simp [Reads] at hw0
        go_simp
        try with_reducible rfl
      try go_simp
      clear hSw
      refine oneU (i := 2) rfl (by kernel_rfl) (fun K hK => ?_)
      rw [if_pos (show Region.wanted _ _ = true from rfl)]
      go_wp2_with fail
      refine (bclone q.ka q.kc q.k _ (hq4.k.keep0 hkd4) hq4.lk).mono ?_
      rintro e w6 ⟨a1, c1, rfl, hr1, hf1, hk6⟩
      simp only []
      have hk46 := hkd4.trans hk6
      refine hK _ _ (fun q hq _ _ => HR.out _ hk46 q hq) ?_
      clear hK K
      try go_simp
      refine oneU (i := 5) rfl (by kernel_rfl) (fun K hK => ?_)
      rw [if_pos (show Region.wanted _ _ = true from rfl)]
      go_wp2_with fail
      refine (bclone q.va q.vc q.v _ (hq4.v.keep0 hk46) hq4.lv).mono ?_
      rintro e w7 ⟨a2, c2, rfl, hr2, hf2, hk7⟩
      simp only []
      have hk47 := hk46.trans hk7
      refine hK _ _ (fun q hq _ _ => HR.out _ hk47 q hq) ?_
      clear hK K
      try go_simp
      have hSw := HR.out _ hk47
      refine takeU (i := 6) (v := ?_) rfl (by kernel_rfl) (fun _ _ _ h => h) (Or.inl ⟨by rfl, fun w0 hw0 => ?_⟩) (fun p hp _ => hSw p hp) ?_
      rotate_left
      · simp [Reads] at hw0
        go_simp
        try with_reducible rfl
      try go_simp
      refine takeU (i := 7) (v := ?_) rfl (by kernel_rfl) (fun _ _ _ h => h) (Or.inl ⟨by rfl, fun w0 hw0 => ?_⟩) (fun p hp _ => hSw p hp) ?_
      rotate_left
      · simp [Reads] at hw0
        go_simp
        try with_reducible rfl
      try go_simp
      refine takeU (i := 8) (v := ?_) rfl (by kernel_rfl) (fun _ _ _ h => h) (Or.inl ⟨by rfl, fun w0 hw0 => ?_⟩) (fun p hp _ => hSw p hp) ?_
      rotate_left
      · simp [Reads] at hw0
        go_simp
        try with_reducible rfl
      try go_simp
      refine doneU (by kernel_rfl) ?_
      have HY := Lib.hid hyes
      clear hSw HR hyes
      go_wp2_with fail
      go_ret3
      have hs3 := hkS.size
      have hs4 := hk34.size
      have hs5 := hkd4.size
      have hs6 := hk46.size
      refine .inr ⟨q.k, q.v, HY.out, a1, c1, a2, c2, rfl, hr1.keep0 hk7, fun ad e hx => Nat.le_trans (by omega) (hf1 ad e hx), hr2, fun ad e hx => Nat.le_trans (by omega) (hf2 ad e hx), ⟨q.ka, q.kc, hC4.keep hk47 (by simp), hq4.k.keep0 hk47, ?_, hq4.lk⟩, ((hkS.of_nil).trans (hk34.trans hk47.of_nil)), hq4.lk, hq4.lv⟩
      exact hq4.fk.mono hq4.k (fun x hx _ => hx.1)
end Go.Proofs.YtknnhnpcgefchaaDoor
