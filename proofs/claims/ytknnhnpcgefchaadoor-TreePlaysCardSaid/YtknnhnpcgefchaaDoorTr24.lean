/- joined: two nodes that stand side by side, as one or as two. Printed by tools/genTr24.py. -/
import Derived.Test.YtknnhnpcgefchaaDoorTr23

namespace Go.Proofs.YtknnhnpcgefchaaDoor
open Go.RowKit Go.Lib

theorem built_3 (fo po co : Option Addr) (n c m k i j : Nat) : Tryd.prog.built 55 [(0, .slice fo n c), (1, .slice po m k), (2, .slice co i j)] = some #[.slice fo n c, .slice po m k, .slice co i j] := by kernel_rfl

set_option maxRecDepth 100000 in
set_option maxHeartbeats 4000000 in
theorem njoin_walk {w : World} {ba bb : Nat} {f : Bs} {fo pa pb ca cb : Option Addr} {fc na pca ma cca nb pcb mb ccb : Nat} {v0 : Value} {xs ys us vs : List Value} {P : Nat → List Nd → World → Prop}
    (hA : Blk w ba 55 #[.slice fo f.length fc, .slice pa na pca, .slice ca ma cca]) (hB : Blk w bb 55 #[v0, .slice pb nb pcb, .slice cb mb ccb]) (hx : Sl w 2 pa na pca xs) (hy : Sl w 2 pb nb pcb ys) (hu : Sl w 1 ca ma cca us) (hv : Sl w 1 cb mb ccb vs) (hn : na + nb ≤ 1000000) (hm : ma + mb ≤ 1000000)
    (hfin : ∀ (w' : World) (xb : Nat) (po : Option Addr) (pc : Nat) (co : Option Addr) (cc : Nat), Keeps [] w w' → Blk w' xb 55 #[.slice fo f.length fc, .slice po (na + nb) pc, .slice co (ma + mb) cc] → w.heap.size ≤ xb → w'.ownsRow w.heap.size 64 2 (.slice po (na + nb) pc) (na + nb) (xs ++ ys) → w'.ownsRow w.heap.size 51 1 (.slice co (ma + mb) cc) (ma + mb) (us ++ vs) →
      Calls Tryd.prog 35 #[.pointer (some ⟨xb, 0, none⟩)] w' fun e w'' => ∃ g cs', e = .returned (.slice (some ⟨g, 0, none⟩) (List.length cs') (List.length cs')) ∧ Keeps [] w w'' ∧ P g cs' w'') :
    Calls Tryd.prog 40 #[.pointer (some ⟨ba, 0, none⟩), .pointer (some ⟨bb, 0, none⟩)] w fun e w'' => ∃ g cs', e = .returned (.slice (some ⟨g, 0, none⟩) (List.length cs') (List.length cs')) ∧ Keeps [] w w'' ∧ P g cs' w'' := by
  have a0 : w.cell? ⟨ba, 0, none⟩ = some (.slice fo f.length fc) := hA.cell 0
  have a1 : w.cell? ⟨ba, 1, none⟩ = some (.slice pa na pca) := hA.cell 1
  have a2 : w.cell? ⟨ba, 2, none⟩ = some (.slice ca ma cca) := hA.cell 2
  have b1 : w.cell? ⟨bb, 1, none⟩ = some (.slice pb nb pcb) := hB.cell 1
  have b2 : w.cell? ⟨bb, 2, none⟩ = some (.slice cb mb ccb) := hB.cell 2
  go_enter Tryd.func40, Tryd.ntmps40
  go_upto_region 1 with (fail)
  have HR0 : (∀ W : World, Keeps [] w W → ∀ q ∈ [((3 : Nat), fun w0 : World => w0.cell? ⟨ba, 0, none⟩ = some (.slice fo f.length fc)), ((7 : Nat), fun w0 : World => w0.cell? ⟨ba, 1, none⟩ = some (.slice pa na pca)), ((11 : Nat), fun w0 : World => w0.cell? ⟨bb, 1, none⟩ = some (.slice pb nb pcb)), ((17 : Nat), fun w0 : World => w0.cell? ⟨ba, 2, none⟩ = some (.slice ca ma cca)), ((21 : Nat), fun w0 : World => w0.cell? ⟨bb, 2, none⟩ = some (.slice cb mb ccb))], q.2 W) := fun W hW => rds5 (hW.cellSome a0 (by simp)) (hW.cellSome a1 (by simp)) (hW.cellSome b1 (by simp)) (hW.cellSome a2 (by simp)) (hW.cellSome b2 (by simp))
  have hkd := (Keeps.refl [] w).drew
  have hSw := HR0 _ hkd
  have HR := Lib.hid HR0
  clear HR0 a0 a1 a2 b1 b2 hA hB
  refine startU [((3 : Nat), fun w0 : World => w0.cell? ⟨ba, 0, none⟩ = some (.slice fo f.length fc)), ((7 : Nat), fun w0 : World => w0.cell? ⟨ba, 1, none⟩ = some (.slice pa na pca)), ((11 : Nat), fun w0 : World => w0.cell? ⟨bb, 1, none⟩ = some (.slice pb nb pcb)), ((17 : Nat), fun w0 : World => w0.cell? ⟨ba, 2, none⟩ = some (.slice ca ma cca)), ((21 : Nat), fun w0 : World => w0.cell? ⟨bb, 2, none⟩ = some (.slice cb mb ccb))] (by kernel_rfl) ?_
  generalize w.drew = w0 at *
  refine takeU (i := 0) (v := ?_) rfl (by kernel_rfl) (fun _ _ _ h => h) (Or.inl ⟨by rfl, fun w0 hw0 => ?_⟩) (fun p hp _ => hSw p hp) ?_
  rotate_left
  · simp [Reads] at hw0
    go_simp
    try with_reducible rfl
  try go_simp
  refine takeU (i := 1) (v := ?_) rfl (by kernel_rfl) (fun _ _ _ h => h) (Or.inl ⟨by rfl, fun w0 hw0 => ?_⟩) (fun p hp _ => hSw p hp) ?_
  rotate_left
  · simp [Reads] at hw0
    go_simp
    try with_reducible rfl
  try go_simp
  refine takeU (i := 2) (v := ?_) rfl (by kernel_rfl) (fun _ _ _ h => h) (Or.inl ⟨by rfl, fun w0 hw0 => ?_⟩) (fun p hp _ => hSw p hp) ?_
  rotate_left
  · simp [Reads] at hw0
    go_simp
    try with_reducible rfl
  try go_simp
  refine takeU (i := 3) (v := ?_) rfl (by kernel_rfl) (fun _ _ _ h => h) (Or.inl ⟨by rfl, fun w0 hw0 => ?_⟩) (fun p hp _ => hSw p hp) ?_
  rotate_left
  · simp [Reads] at hw0
    go_simp
    try with_reducible rfl
  try go_simp
  refine takeU (i := 4) (v := ?_) rfl (by kernel_rfl) (fun _ _ _ h => h) (Or.inl ⟨by rfl, fun w0 hw0 => ?_⟩) (fun p hp _ => hSw p hp) ?_
  rotate_left
  · simp [Reads] at hw0
    go_simp
    try with_reducible rfl
  try go_simp
  refine takeU (i := 5) (v := ?_) rfl (by kernel_rfl) (fun _ _ _ h => h) (Or.inl ⟨by rfl, fun w0 hw0 => ?_⟩) (fun p hp _ => hSw p hp) ?_
  rotate_left
  · simp [Reads] at hw0
    go_simp
    try with_reducible rfl
  try go_simp
  refine takeU (i := 6) (v := ?_) rfl (by kernel_rfl) (fun _ _ _ h => h) (Or.inl ⟨by rfl, fun w0 hw0 => ?_⟩) (fun p hp _ => hSw p hp) ?_
  rotate_left
  · simp [Reads] at hw0
    go_simp
    try with_reducible rfl
  try go_simp
  refine takeU (i := 7) (v := ?_) rfl (by kernel_rfl) (fun _ _ _ h => h) (Or.inl ⟨by rfl, fun w0 hw0 => ?_⟩) (fun p hp _ => hSw p hp) ?_
  rotate_left
  · simp [Reads] at hw0
    go_simp
    try with_reducible rfl
  try go_simp
  refine takeU (i := 8) (v := ?_) rfl (by kernel_rfl) (fun _ _ _ h => h) (Or.inl ⟨by rfl, fun w0 hw0 => ?_⟩) (fun p hp _ => hSw p hp) ?_
  rotate_left
  · simp [Reads] at hw0
    go_simp
    try with_reducible rfl
  try go_simp
  refine takeU (i := 9) (v := ?_) rfl (by kernel_rfl) (fun _ _ _ h => h) (Or.inl ⟨by rfl, fun w0 hw0 => ?_⟩) (fun p hp _ => hSw p hp) ?_
  rotate_left
  · simp [Reads] at hw0
    go_simp
    try with_reducible rfl
  try go_simp
  refine takeU (i := 10) (v := ?_) rfl (by kernel_rfl) (fun _ _ _ h => h) (Or.inl ⟨by rfl, fun w0 hw0 => ?_⟩) (fun p hp _ => hSw p hp) ?_
  rotate_left
  · simp [Reads] at hw0
    go_simp
    try with_reducible rfl
  try go_simp
  refine takeU (i := 11) (v := ?_) rfl (by kernel_rfl) (fun _ _ _ h => h) (Or.inl ⟨by rfl, fun w0 hw0 => ?_⟩) (fun p hp _ => hSw p hp) ?_
  rotate_left
  · simp [Reads] at hw0
    go_simp
    try with_reducible rfl
  try go_simp
  refine takeU (i := 14) (v := ?_) rfl (by kernel_rfl) (fun _ _ _ h => h) (Or.inl ⟨by rfl, fun w0 hw0 => ?_⟩) (fun p hp _ => hSw p hp) ?_
  rotate_left
  · simp [Reads] at hw0
    go_simp
    try with_reducible rfl
  try go_simp
  refine takeU (i := 15) (v := ?_) rfl (by kernel_rfl) (fun _ _ _ h => h) (Or.inl ⟨by rfl, fun w0 hw0 => ?_⟩) (fun p hp _ => hSw p hp) ?_
  rotate_left
  · simp [Reads] at hw0
    go_simp
    try with_reducible rfl
  try go_simp
  refine takeU (i := 16) (v := ?_) rfl (by kernel_rfl) (fun _ _ _ h => h) (Or.inl ⟨by rfl, fun w0 hw0 => ?_⟩) (fun p hp _ => hSw p hp) ?_
  rotate_left
  · simp [Reads] at hw0
    go_simp
    try with_reducible rfl
  try go_simp
  refine takeU (i := 17) (v := ?_) rfl (by kernel_rfl) (fun _ _ _ h => h) (Or.inl ⟨by rfl, fun w0 hw0 => ?_⟩) (fun p hp _ => hSw p hp) ?_
  rotate_left
  · simp [Reads] at hw0
    go_simp
    try with_reducible rfl
  try go_simp
  refine takeU (i := 18) (v := ?_) rfl (by kernel_rfl) (fun _ _ _ h => h) (Or.inl ⟨by rfl, fun w0 hw0 => ?_⟩) (fun p hp _ => hSw p hp) ?_
  rotate_left
  · simp [Reads] at hw0
    go_simp
    try with_reducible rfl
  try go_simp
  refine takeU (i := 19) (v := ?_) rfl (by kernel_rfl) (fun _ _ _ h => h) (Or.inl ⟨by rfl, fun w0 hw0 => ?_⟩) (fun p hp _ => hSw p hp) ?_
  rotate_left
  · simp [Reads] at hw0
    go_simp
    try with_reducible rfl
  try go_simp
  refine takeU (i := 20) (v := ?_) rfl (by kernel_rfl) (fun _ _ _ h => h) (Or.inl ⟨by rfl, fun w0 hw0 => ?_⟩) (fun p hp _ => hSw p hp) ?_
  rotate_left
  · simp [Reads] at hw0
    go_simp
    try with_reducible rfl
  try go_simp
  refine takeU (i := 21) (v := ?_) rfl (by kernel_rfl) (fun _ _ _ h => h) (Or.inl ⟨by rfl, fun w0 hw0 => ?_⟩) (fun p hp _ => hSw p hp) ?_
  rotate_left
  · simp [Reads] at hw0
    go_simp
    try with_reducible rfl
  try go_simp
  clear hSw
  refine twoU (i := 12) (j := 22) rfl rfl (by kernel_rfl) (fun K hK => ?_) (fun K hK => ?_)
  · go_simp
    refine hK _ _ (fun q hq _ _ => HR.out _ (hkd.alloc _) q hq) ?_
    clear hK K
    try go_simp
    have b12 := Blk.fresh w0 52 #[.slice pa na pca, .slice pb nb pcb]
    have k1 := hkd.alloc (.cells #[.slice pa na pca, .slice pb nb pcb] 52)
    have z1 := hkd.size
    have j1 := (Keeps.refl [] w0).alloc (.cells #[.slice pa na pca, .slice pb nb pcb] 52)
    generalize World.alloc w0 _ = w1 at *
    generalize w0.heap.size = s12 at *
    refine twoU (i := 13) (j := 22) rfl rfl (by kernel_rfl) (fun K hK => ?_) (fun K hK => ?_)
    · rw [if_pos (show Region.wanted _ _ = true from rfl)]
      go_wp2_with fail
      refine (catP s12 pa pb na nb pca pcb xs ys _ b12 (hx.keep0 k1) (hy.keep0 k1) hn).mono ?_
      rintro e w2 ⟨po, pc, rfl, hO, j2⟩
      have k2 := k1.trans j2
      simp only []
      refine hK _ _ (fun q hq _ _ => HR.out _ k2 q hq) ?_
      clear hK K
      try go_simp
      clear b12
      replace hO := own_older hO (k1.size)
      refine oneU (i := 22) rfl (by kernel_rfl) (fun K hK => ?_)
      go_simp
      refine hK _ _ (fun q hq _ _ => HR.out _ (k2.alloc _) q hq) ?_
      clear hK K
      try go_simp
      have b22 := Blk.fresh w2 53 #[.slice ca ma cca, .slice cb mb ccb]
      have k3 := k2.alloc (.cells #[.slice ca ma cca, .slice cb mb ccb] 53)
      have z3 := k2.size
      have j3 := (Keeps.refl [] w2).alloc (.cells #[.slice ca ma cca, .slice cb mb ccb] 53)
      generalize World.alloc w2 _ = w3 at *
      generalize w2.heap.size = s22 at *
      replace hO := own_keep hO j3 (by simp)
      refine oneU (i := 23) rfl (by kernel_rfl) (fun K hK => ?_)
      rw [if_pos (show Region.wanted _ _ = true from rfl)]
      go_wp2_with fail
      refine (catN s22 ca cb ma mb cca ccb us vs _ b22 (hu.keep0 k3) (hv.keep0 k3) hm).mono ?_
      rintro e w4 ⟨co, cc, rfl, hO2, j4⟩
      have k4 := k3.trans j4
      simp only []
      refine hK _ _ (fun q hq _ _ => HR.out _ k4 q hq) ?_
      clear hK K
      try go_simp
      clear b22
      replace hO := own_keep hO j4 (by simp)
      replace hO2 := own_older hO2 (k3.size)
      have bN := built_3 fo po co f.length fc (na + nb) pc (ma + mb) cc
      have hSw := HR.out _ k4
      refine takeU (i := 24) (v := ?_) rfl (by kernel_rfl) (fun _ _ _ h => h) (Or.inl ⟨by rfl, fun w0 hw0 => ?_⟩) (fun p hp _ => hSw p hp) ?_
      rotate_left
      · simp [Reads] at hw0
        go_simp
        try with_reducible rfl
      try go_simp
      clear hSw
      refine oneU (i := 25) rfl (by kernel_rfl) (fun K hK => ?_)
      go_simp
      refine hK _ _ (fun q hq _ _ => HR.out _ (k4.alloc _) q hq) ?_
      clear hK K
      try go_simp
      have bX := Blk.fresh w4 55 #[.slice fo f.length fc, .slice po (na + nb) pc, .slice co (ma + mb) cc]
      have k5 := k4.alloc (.cells #[.slice fo f.length fc, .slice po (na + nb) pc, .slice co (ma + mb) cc] 55)
      have z5 := k4.size
      have j5 := (Keeps.refl [] w4).alloc (.cells #[.slice fo f.length fc, .slice po (na + nb) pc, .slice co (ma + mb) cc] 55)
      generalize World.alloc w4 _ = w5 at *
      generalize w4.heap.size = xb at *
      replace hO := own_keep hO j5 (by simp)
      replace hO2 := own_keep hO2 j5 (by simp)
      refine oneU (i := 26) rfl (by kernel_rfl) (fun K hK => ?_)
      rw [if_pos (show Region.wanted _ _ = true from rfl)]
      go_wp2_with fail
      refine (hfin _ xb po pc co cc k5 bX z5 hO hO2).mono ?_
      rintro e w9 ⟨g, cs', rfl, hk9, hP⟩
      simp only []
      refine hK _ _ (fun q hq _ _ => HR.out _ hk9 q hq) ?_
      clear hK K
      try go_simp
      have hSw := HR.out _ hk9
      refine takeU (i := 27) (v := ?_) rfl (by kernel_rfl) (fun _ _ _ h => h) (Or.inl ⟨by rfl, fun w0 hw0 => ?_⟩) (fun p hp _ => hSw p hp) ?_
      rotate_left
      · simp [Reads] at hw0
        go_simp
        try with_reducible rfl
      try go_simp
      clear hSw
      refine doneU (by kernel_rfl) ?_
      go_wp2_with fail
      go_ret
      exact ⟨g, cs', rfl, hk9, hP⟩
    · go_simp
      refine hK _ _ (fun q hq _ _ => HR.out _ (k1.alloc _) q hq) ?_
      clear hK K
      try go_simp
      have b22 := Blk.fresh w1 53 #[.slice ca ma cca, .slice cb mb ccb]
      have k2 := k1.alloc (.cells #[.slice ca ma cca, .slice cb mb ccb] 53)
      have z2 := k1.size
      have j2 := (Keeps.refl [] w1).alloc (.cells #[.slice ca ma cca, .slice cb mb ccb] 53)
      generalize World.alloc w1 _ = w2 at *
      generalize w1.heap.size = s22 at *
      replace b12 := b12.keep j2 (by simp)
      refine oneU (i := 13) rfl (by kernel_rfl) (fun K hK => ?_)
      rw [if_pos (show Region.wanted _ _ = true from rfl)]
      go_wp2_with fail
      refine (catP s12 pa pb na nb pca pcb xs ys _ b12 (hx.keep0 k2) (hy.keep0 k2) hn).mono ?_
      rintro e w3 ⟨po, pc, rfl, hO, j3⟩
      have k3 := k2.trans j3
      simp only []
      refine hK _ _ (fun q hq _ _ => HR.out _ k3 q hq) ?_
      clear hK K
      try go_simp
      clear b12
      replace b22 := b22.keep j3 (by simp)
      replace hO := own_older hO (k2.size)
      refine oneU (i := 23) rfl (by kernel_rfl) (fun K hK => ?_)
      rw [if_pos (show Region.wanted _ _ = true from rfl)]
      go_wp2_with fail
      refine (catN s22 ca cb ma mb cca ccb us vs _ b22 (hu.keep0 k3) (hv.keep0 k3) hm).mono ?_
      rintro e w4 ⟨co, cc, rfl, hO2, j4⟩
      have k4 := k3.trans j4
      simp only []
      refine hK _ _ (fun q hq _ _ => HR.out _ k4 q hq) ?_
      clear hK K
      try go_simp
      clear b22
      replace hO := own_keep hO j4 (by simp)
      replace hO2 := own_older hO2 (k3.size)
      have bN := built_3 fo po co f.length fc (na + nb) pc (ma + mb) cc
      have hSw := HR.out _ k4
      refine takeU (i := 24) (v := ?_) rfl (by kernel_rfl) (fun _ _ _ h => h) (Or.inl ⟨by rfl, fun w0 hw0 => ?_⟩) (fun p hp _ => hSw p hp) ?_
      rotate_left
      · simp [Reads] at hw0
        go_simp
        try with_reducible rfl
      try go_simp
      clear hSw
      refine oneU (i := 25) rfl (by kernel_rfl) (fun K hK => ?_)
      go_simp
      refine hK _ _ (fun q hq _ _ => HR.out _ (k4.alloc _) q hq) ?_
      clear hK K
      try go_simp
      have bX := Blk.fresh w4 55 #[.slice fo f.length fc, .slice po (na + nb) pc, .slice co (ma + mb) cc]
      have k5 := k4.alloc (.cells #[.slice fo f.length fc, .slice po (na + nb) pc, .slice co (ma + mb) cc] 55)
      have z5 := k4.size
      have j5 := (Keeps.refl [] w4).alloc (.cells #[.slice fo f.length fc, .slice po (na + nb) pc, .slice co (ma + mb) cc] 55)
      generalize World.alloc w4 _ = w5 at *
      generalize w4.heap.size = xb at *
      replace hO := own_keep hO j5 (by simp)
      replace hO2 := own_keep hO2 j5 (by simp)
      refine oneU (i := 26) rfl (by kernel_rfl) (fun K hK => ?_)
      rw [if_pos (show Region.wanted _ _ = true from rfl)]
      go_wp2_with fail
      refine (hfin _ xb po pc co cc k5 bX z5 hO hO2).mono ?_
      rintro e w9 ⟨g, cs', rfl, hk9, hP⟩
      simp only []
      refine hK _ _ (fun q hq _ _ => HR.out _ hk9 q hq) ?_
      clear hK K
      try go_simp
      have hSw := HR.out _ hk9
      refine takeU (i := 27) (v := ?_) rfl (by kernel_rfl) (fun _ _ _ h => h) (Or.inl ⟨by rfl, fun w0 hw0 => ?_⟩) (fun p hp _ => hSw p hp) ?_
      rotate_left
      · simp [Reads] at hw0
        go_simp
        try with_reducible rfl
      try go_simp
      clear hSw
      refine doneU (by kernel_rfl) ?_
      go_wp2_with fail
      go_ret
      exact ⟨g, cs', rfl, hk9, hP⟩
  · go_simp
    refine hK _ _ (fun q hq _ _ => HR.out _ (hkd.alloc _) q hq) ?_
    clear hK K
    try go_simp
    have b22 := Blk.fresh w0 53 #[.slice ca ma cca, .slice cb mb ccb]
    have k1 := hkd.alloc (.cells #[.slice ca ma cca, .slice cb mb ccb] 53)
    have z1 := hkd.size
    have j1 := (Keeps.refl [] w0).alloc (.cells #[.slice ca ma cca, .slice cb mb ccb] 53)
    generalize World.alloc w0 _ = w1 at *
    generalize w0.heap.size = s22 at *
    refine oneU (i := 12) rfl (by kernel_rfl) (fun K hK => ?_)
    go_simp
    refine hK _ _ (fun q hq _ _ => HR.out _ (k1.alloc _) q hq) ?_
    clear hK K
    try go_simp
    have b12 := Blk.fresh w1 52 #[.slice pa na pca, .slice pb nb pcb]
    have k2 := k1.alloc (.cells #[.slice pa na pca, .slice pb nb pcb] 52)
    have z2 := k1.size
    have j2 := (Keeps.refl [] w1).alloc (.cells #[.slice pa na pca, .slice pb nb pcb] 52)
    generalize World.alloc w1 _ = w2 at *
    generalize w1.heap.size = s12 at *
    replace b22 := b22.keep j2 (by simp)
    refine oneU (i := 13) rfl (by kernel_rfl) (fun K hK => ?_)
    rw [if_pos (show Region.wanted _ _ = true from rfl)]
    go_wp2_with fail
    refine (catP s12 pa pb na nb pca pcb xs ys _ b12 (hx.keep0 k2) (hy.keep0 k2) hn).mono ?_
    rintro e w3 ⟨po, pc, rfl, hO, j3⟩
    have k3 := k2.trans j3
    simp only []
    refine hK _ _ (fun q hq _ _ => HR.out _ k3 q hq) ?_
    clear hK K
    try go_simp
    clear b12
    replace b22 := b22.keep j3 (by simp)
    replace hO := own_older hO (k2.size)
    refine oneU (i := 23) rfl (by kernel_rfl) (fun K hK => ?_)
    rw [if_pos (show Region.wanted _ _ = true from rfl)]
    go_wp2_with fail
    refine (catN s22 ca cb ma mb cca ccb us vs _ b22 (hu.keep0 k3) (hv.keep0 k3) hm).mono ?_
    rintro e w4 ⟨co, cc, rfl, hO2, j4⟩
    have k4 := k3.trans j4
    simp only []
    refine hK _ _ (fun q hq _ _ => HR.out _ k4 q hq) ?_
    clear hK K
    try go_simp
    clear b22
    replace hO := own_keep hO j4 (by simp)
    replace hO2 := own_older hO2 (k3.size)
    have bN := built_3 fo po co f.length fc (na + nb) pc (ma + mb) cc
    have hSw := HR.out _ k4
    refine takeU (i := 24) (v := ?_) rfl (by kernel_rfl) (fun _ _ _ h => h) (Or.inl ⟨by rfl, fun w0 hw0 => ?_⟩) (fun p hp _ => hSw p hp) ?_
    rotate_left
    · simp [Reads] at hw0
      go_simp
      try with_reducible rfl
    try go_simp
    clear hSw
    refine oneU (i := 25) rfl (by kernel_rfl) (fun K hK => ?_)
    go_simp
    refine hK _ _ (fun q hq _ _ => HR.out _ (k4.alloc _) q hq) ?_
    clear hK K
    try go_simp
    have bX := Blk.fresh w4 55 #[.slice fo f.length fc, .slice po (na + nb) pc, .slice co (ma + mb) cc]
    have k5 := k4.alloc (.cells #[.slice fo f.length fc, .slice po (na + nb) pc, .slice co (ma + mb) cc] 55)
    have z5 := k4.size
    have j5 := (Keeps.refl [] w4).alloc (.cells #[.slice fo f.length fc, .slice po (na + nb) pc, .slice co (ma + mb) cc] 55)
    generalize World.alloc w4 _ = w5 at *
    generalize w4.heap.size = xb at *
    replace hO := own_keep hO j5 (by simp)
    replace hO2 := own_keep hO2 j5 (by simp)
    refine oneU (i := 26) rfl (by kernel_rfl) (fun K hK => ?_)
    rw [if_pos (show Region.wanted _ _ = true from rfl)]
    go_wp2_with fail
    refine (hfin _ xb po pc co cc k5 bX z5 hO hO2).mono ?_
    rintro e w9 ⟨g, cs', rfl, hk9, hP⟩
    simp only []
    refine hK _ _ (fun q hq _ _ => HR.out _ hk9 q hq) ?_
    clear hK K
    try go_simp
    have hSw := HR.out _ hk9
    refine takeU (i := 27) (v := ?_) rfl (by kernel_rfl) (fun _ _ _ h => h) (Or.inl ⟨by rfl, fun w0 hw0 => ?_⟩) (fun p hp _ => hSw p hp) ?_
    rotate_left
    · simp [Reads] at hw0
      go_simp
      try with_reducible rfl
    try go_simp
    clear hSw
    refine doneU (by kernel_rfl) ?_
    go_wp2_with fail
    go_ret
    exact ⟨g, cs', rfl, hk9, hP⟩

/-- two nodes side by side, as one or two -/
theorem njoined {w : World} {F : Nat → Prop} : ∀ {d m1 m2 : Nat} {a b : Nd}, NdAt w F d m1 16 a.b a.f a.l → NdAt w F d m2 16 b.b b.f b.l → Ahd a b → 4 ≤ m1 + m2 →
    Calls Tryd.prog 40 #[.pointer (some ⟨a.b, 0, none⟩), .pointer (some ⟨b.b, 0, none⟩)] w fun e w' => ∃ g cs', e = .returned (.slice (some ⟨g, 0, none⟩) (List.length cs') (List.length cs')) ∧ Keeps [] w w' ∧ Parted w w' F d 4 a.f (a.l ++ b.l) g cs'
  | 0, m1, m2, a, b, ⟨fo, fc, po, pc, co, cc, ps, h1, h2, h3, h4, h5, h6, h7, h8, h9, h10, h11, h12, h13, h14⟩, ⟨fo', fc', po', pc', co', cc', ps', g1, g2, g3, g4, g5, g6, g7, g8, g9, g10, g11, g12, g13, g14⟩, hab, hm => by
    refine njoin_walk h1 g1 h5 g5 h7 g7 (by omega) (by omega) ?_
    intro w' xb po2 pc2 co2 cc2 hk hX hxb hO hO2
    have gF : ∀ x, F x → x < w.heap.size → Grown F w x := fun _ h _ => .inl h
    have hl : (ps ++ ps').length = ps.length + ps'.length := List.length_append
    rw [← prs_app] at hO
    have hS := own_read hO (prs_one _)
    have hS2 := own_read hO2 (by simp)
    have hN : NdAt w' (Grown F w) 0 4 32 xb a.f (a.l ++ b.l) := by
      refine ⟨fo, fc, po2, pc2, co2, cc2, ps ++ ps', by rw [hl]; exact hX, .inr hxb, h3.keep0 hk, h4.mono h3 gF, by rw [hl]; exact hS, fun ad e _ => .inr ?_, hS2, fun q hq => ?_, by rw [← h9, ← g9]; simp [kvs], Srt.app.2 ⟨h10, g10, fun p hp q hq => lt_leB (hab.2 p hp) (g11 q hq)⟩, fun p hp => ?_, by omega, by omega, h14⟩
      · subst e
        exact (own_lt hO ad.block (by simp)).1
      · rcases List.mem_append.1 hq with hq | hq
        · exact ((h8 q hq).mono gF).keep0 hk
        · exact ((g8 q hq).mono gF).keep0 hk
      · rcases List.mem_append.1 hp with hp | hp
        · exact h11 p hp
        · exact ltB_asymm (lt_leB hab.1 (g11 p hp))
    refine (nparted hN (Nat.le_refl _)).mono ?_
    rintro e w'' ⟨g, cs', rfl, hP⟩
    exact ⟨g, cs', rfl, hk.trans hP.keeps, hP.back hk⟩
  | d + 1, m1, m2, a, b, ⟨fo, fc, po, pc, co, cc, cs, h1, h2, h3, h4, h5, h6, h7, h8, h9, h10, h11, h12, h13, h14⟩, ⟨fo', fc', po', pc', co', cc', cs', g1, g2, g3, g4, g5, g6, g7, g8, g9, g10, g11, g12, g13, g14⟩, hab, hm => by
    refine njoin_walk h1 g1 h5 g5 h6 g6 (by omega) (by omega) ?_
    intro w' xb po2 pc2 co2 cc2 hk hX hxb hO hO2
    have gF : ∀ x, F x → x < w.heap.size → Grown F w x := fun _ h _ => .inl h
    have hl : (cs ++ cs').length = cs.length + cs'.length := List.length_append
    rw [← ptrs_app] at hO2
    have hS2 := own_read hO2 (ptrs_one _)
    have hS := own_read hO (by simp)
    have hbf : ∀ y ∈ cs', ltB y.f b.f = false := fun y hy => by
      cases cs' with
      | nil => cases hy
      | cons z zs =>
        have hz : z.f = b.f := by simpa using g11
        rcases List.mem_cons.1 hy with rfl | hy
        · rw [hz]; exact ltB_irr _
        · rw [← hz]; exact ltB_asymm ((List.pairwise_cons.1 g10).1 y hy).1
    have hall : ∀ x ∈ cs, ∀ y ∈ cs', Ahd x y := fun x hx y hy => by
      have hp : ∀ p ∈ x.l, ltB p.1 y.f = true := fun p hp => lt_leB (hab.2 p (by rw [← h9]; exact flat_mem.2 ⟨x, hx, hp⟩)) (hbf y hy)
      refine ⟨?_, hp⟩
      obtain ⟨p, q, e⟩ := List.exists_cons_of_ne_nil ((h8 x hx).ne (by omega))
      have hpm : p ∈ x.l := by rw [e]; exact List.mem_cons_self
      exact leB_lt ((h8 x hx).ord.2 p hpm) (hp p hpm)
    have hne : cs ≠ [] := by rintro rfl; simp at h11
    have hN : NdAt w' (Grown F w) (d + 1) 4 32 xb a.f (a.l ++ b.l) := by
      refine ⟨fo, fc, po2, pc2, co2, cc2, cs ++ cs', by rw [hl]; exact hX, .inr hxb, h3.keep0 hk, h4.mono h3 gF, hS, by rw [hl]; exact hS2, fun ad e _ => .inr ?_, fun q hq => ?_, by rw [flat_app, h9, g9], List.pairwise_append.2 ⟨h10, g10, hall⟩, ?_, by omega, by omega, h14⟩
      · subst e
        exact (own_lt hO2 ad.block (by simp)).1
      · rcases List.mem_append.1 hq with hq | hq
        · exact ((h8 q hq).mono gF).keep0 hk
        · exact ((g8 q hq).mono gF).keep0 hk
      · obtain ⟨z, zs, rfl⟩ := List.exists_cons_of_ne_nil hne
        simpa using h11
    refine (nparted hN (Nat.le_refl _)).mono ?_
    rintro e w'' ⟨g, cs', rfl, hP⟩
    exact ⟨g, cs', rfl, hk.trans hP.keeps, hP.back hk⟩
end Go.Proofs.YtknnhnpcgefchaaDoor
