/- A node of a group: sends, of whatever message. -/
import Derived.Test.YtdeaelbelcjhcaaDoorRaft20
import Derived.Test.YtdeaelbelcjhcaaDoorLit


namespace Go.Proofs.YtdeaelbelcjhcaaDoor
open Go.RowKit

/-- a message with its sender and its term -/
def stamp (r : Rf) (cs : List Value) : List Value := (cs.set 1 (.int .i64 r.id)).set 3 (.int .u64 r.tm)
theorem stamp_length (r : Rf) (cs : List Value) : (stamp r cs).length = cs.length := by simp [stamp]

theorem rdsG_0 {w : World} {b : Nat} {r : Rf} (hB : Blk w b 63 r.cells) : ∀ p ∈ [((3 : Nat), fun w0 : World => w0.cell? ⟨b, 0, none⟩ = some (.int .i64 r.id)), ((8 : Nat), fun w0 : World => w0.cell? ⟨b, 2, none⟩ = some (.int .u64 r.tm))], p.2 w := rdsS_0 hB
theorem rdsG_1 {w : World} {b mb : Nat} {r : Rf} {cs : Array Value} (hB : Blk w b 63 r.cells) (hM : Blk w mb 49 cs) : ∀ p ∈ [((5 : Nat), fun w0 : World => w0.cell? ⟨b, 15, none⟩ = some (.slice r.ms.1 r.ms.2.1 r.ms.2.2)), ((6 : Nat), fun w0 : World => Blk w0 mb 49 cs)], p.2 w := by
  have h0 := hB.cell 15
  simp [Rf.cells] at h0
  intro p hp
  simp at hp
  rcases hp with rfl | rfl
  · exact h0
  · exact hM

set_option maxRecDepth 100000 in
set_option maxHeartbeats 8000000 in
theorem rsendsG (N b : Nat) (r : Rf) (cs xs : List Value) (w : World) (hcs : cs.length = 23) (h1 : ∀ u ∈ cs, u.oneCell' = true) (hB : Blk w b 63 r.cells) (hO : Ow w N r.ms xs) (bN : b < N) (hN : N ≤ w.heap.size) (hm : r.ms.2.1 ≤ 100) :
    Calls Tryd.prog 41 #[.pointer (some ⟨b, 0, none⟩), .agg cs.toArray] w fun e w' => ∃ ao c, e = .returned (.tuple #[]) ∧ Blk w' b 63 ({ r with ms := (ao, r.ms.2.1 + 1, c) } : Rf).cells ∧
      Ow w' N (ao, r.ms.2.1 + 1, c) (xs ++ stamp r cs) ∧ Keeps (b :: blks r.ms.1) w w' := by
  obtain ⟨i, z, hi, hz, hsz, hby, hzc⟩ := infoM
  have hl := hB.lt
  have hX := Blk.fresh w 49 cs.toArray
  have hB1 := hB.alloc (.cells cs.toArray 49)
  have hk1 := (Keeps.refl (b :: blks r.ms.1) w).alloc (.cells cs.toArray 49)
  have hO1 := own_keep hO ((Keeps.refl [] w).alloc (.cells cs.toArray 49)) (by simp)
  have hON := own_lt hO
  obtain ⟨ms, hms⟩ : ∃ ms, stamp r cs = ms := ⟨_, rfl⟩
  rw [hms]
  have HMS := Lib.hid hms
  clear hms
  have HCS := Lib.hid hcs
  have HO1 := Lib.hid h1
  clear hcs h1
  go_enter Tryd.func41, Tryd.ntmps41
  go_upto_region 1 with (fail)
  generalize World.alloc w _ = w1 at *
  generalize hxe : w.heap.size = xb at *
  have hSw := rdsG_0 hB1.drew
  have hl1 := hX.lt
  have hbx : b ≠ xb := by omega
  refine startU [((3 : Nat), fun w0 : World => w0.cell? ⟨b, 0, none⟩ = some (.int .i64 r.id)), ((8 : Nat), fun w0 : World => w0.cell? ⟨b, 2, none⟩ = some (.int .u64 r.tm))] (by kernel_rfl) ?_
  refine takeU (i := 0) (v := ?_) rfl (by kernel_rfl) (fun _ _ _ h => h) (Or.inl ⟨by rfl, fun w0 hw0 => ?_⟩) (fun p hp _ => hSw p hp) ?_
  rotate_left
  · simp [Reads] at hw0
    go_simp
    try with_reducible rfl
  try go_simp
  refine takeU (i := 1) (v := ?_) rfl (by kernel_rfl) (fun _ _ _ h => h) (Or.inl ⟨by rfl, fun w0 hw0 => ?_⟩) (fun p hp _ => hSw p hp) ?_
  rotate_left
  · simp [Reads] at hw0
    go_simp
    try with_reducible rfl
  try go_simp
  refine takeU (i := 2) (v := ?_) rfl (by kernel_rfl) (fun _ _ _ h => h) (Or.inl ⟨by rfl, fun w0 hw0 => ?_⟩) (fun p hp _ => hSw p hp) ?_
  rotate_left
  · simp [Reads] at hw0
    go_simp
    try with_reducible rfl
  try go_simp
  refine takeU (i := 3) (v := ?_) rfl (by kernel_rfl) (fun _ _ _ h => h) (Or.inl ⟨by rfl, fun w0 hw0 => ?_⟩) (fun p hp _ => hSw p hp) ?_
  rotate_left
  · simp [Reads] at hw0
    go_simp
    try with_reducible rfl
  try go_simp
  refine takeU (i := 4) (v := ?_) rfl (by kernel_rfl) (fun _ _ _ h => h) (Or.inl ⟨by rfl, fun w0 hw0 => ?_⟩) (fun p hp _ => hSw p hp) ?_
  rotate_left
  · simp [Reads] at hw0
    go_simp
    try with_reducible rfl
  try go_simp
  refine takeU (i := 5) (v := ?_) rfl (by kernel_rfl) (fun _ _ _ h => h) (Or.inl ⟨by rfl, fun w0 hw0 => ?_⟩) (fun p hp _ => hSw p hp) ?_
  rotate_left
  · simp [Reads] at hw0
    go_simp
    try with_reducible rfl
  try go_simp
  refine takeU (i := 6) (v := ?_) rfl (by kernel_rfl) (fun _ _ _ h => h) (Or.inl ⟨by rfl, fun w0 hw0 => ?_⟩) (fun p hp _ => hSw p hp) ?_
  rotate_left
  · simp [Reads] at hw0
    go_simp
    try with_reducible rfl
  try go_simp
  refine takeU (i := 7) (v := ?_) rfl (by kernel_rfl) (fun _ _ _ h => h) (Or.inl ⟨by rfl, fun w0 hw0 => ?_⟩) (fun p hp _ => hSw p hp) ?_
  rotate_left
  · simp [Reads] at hw0
    go_simp
    try with_reducible rfl
  try go_simp
  refine takeU (i := 8) (v := ?_) rfl (by kernel_rfl) (fun _ _ _ h => h) (Or.inl ⟨by rfl, fun w0 hw0 => ?_⟩) (fun p hp _ => hSw p hp) ?_
  rotate_left
  · simp [Reads] at hw0
    go_simp
    try with_reducible rfl
  try go_simp
  refine takeU (i := 9) (v := ?_) rfl (by kernel_rfl) (fun _ _ _ h => h) (Or.inl ⟨by rfl, fun w0 hw0 => ?_⟩) (fun p hp _ => hSw p hp) ?_
  rotate_left
  · simp [Reads] at hw0
    go_simp
    try with_reducible rfl
  try go_simp
  have hf := hX.free
  have hcX : w1.cell? ⟨xb, 1, none⟩ = some cs[1]! := by rw [hX.cell]; have := HCS.out; simp [this]
  refine oneU (i := 10) rfl (by kernel_rfl) (fun K hK => ?_)
  go_simp
  have hX2 := (hX.put 1 (.int .i64 r.id)).drew
  have hB2 := (hB1.other (p := ⟨xb, 1, none⟩) hbx (.int .i64 r.id)).drew
  have hk2 := (hk1.set (p := ⟨xb, 1, none⟩) (.inr (by simp; omega)) (.int .i64 r.id)).drew
  have hO2 := own_keep hO1 (((Keeps.refl [xb] w1).set (p := ⟨xb, 1, none⟩) (by simp) (.int .i64 r.id)).drew) (fun x hx => by have := hON x hx; simp; omega)
  refine hK _ _ (fun p hp _ _ => rdsG_0 hB2 p hp) ?_
  clear hK K
  try go_simp
  change wpAnyU _ _ _ _ _ _ _ _ (World.drew (World.setCell _ _ _))
  generalize (World.setCell w1 _ _).drew = w2 at *
  clear hSw hB1 hX hk1 hcX hf hl1 hO1
  have hSw := rdsG_0 hB2
  have hl1 := hX2.lt
  refine takeU (i := 11) (v := ?_) rfl (by kernel_rfl) (fun _ _ _ h => h) (Or.inl ⟨by rfl, fun w0 hw0 => ?_⟩) (fun p hp _ => hSw p hp) ?_
  rotate_left
  · simp [Reads] at hw0
    go_simp
    try with_reducible rfl
  try go_simp
  have hf := hX2.free
  have hcX : w2.cell? ⟨xb, 3, none⟩ = some cs[3]! := by rw [hX2.cell]; have := HCS.out; simp [this]
  refine oneU (i := 12) rfl (by kernel_rfl) (fun K hK => ?_)
  go_simp
  have hX3 := (hX2.put 3 (.int .u64 r.tm)).eq (cs' := ms.toArray) (by rw [← HMS.out]; simp [stamp])
  have hB3 := (hB2.other (p := ⟨xb, 3, none⟩) hbx (.int .u64 r.tm))
  have hk3 := (hk2.set (p := ⟨xb, 3, none⟩) (.inr (by simp; omega)) (.int .u64 r.tm))
  have hO3 := own_keep hO2 ((Keeps.refl [xb] w2).set (p := ⟨xb, 3, none⟩) (by simp) (.int .u64 r.tm)) (fun x hx => by have := hON x hx; simp; omega)
  refine hK _ _ (fun p hp _ _ => rdsG_0 hB3 p hp) ?_
  clear hK K
  refine doneU (by kernel_rfl) ?_
  generalize World.setCell w2 _ _ = w3 at *
  clear hSw hB2 hX2 hk2 hcX hf hl1 hO2
  have hlB := hB3.lt
  have hST : ms.length = 23 := by rw [← HMS.out, stamp_length]; exact HCS.out
  have HST := Lib.hid hST
  have hS1 : ∀ u ∈ ms, u.oneCell' = true := by
    intro u hu
    rw [← HMS.out] at hu
    unfold stamp at hu
    rcases List.mem_or_eq_of_mem_set hu with hu | rfl
    · rcases List.mem_or_eq_of_mem_set hu with hu | rfl
      · exact HO1.out u hu
      · rfl
    · rfl
  have HS1 := Lib.hid hS1
  clear hST hS1
  go_upto_region 2 with (fail)
  have hSw := rdsG_1 hB3.drew hX3.drew
  refine startU [((5 : Nat), fun w0 : World => w0.cell? ⟨b, 15, none⟩ = some (.slice r.ms.1 r.ms.2.1 r.ms.2.2)), ((6 : Nat), fun w0 : World => Blk w0 xb 49 ms.toArray)] (by kernel_rfl) ?_
  refine takeU (i := 0) (v := ?_) rfl (by kernel_rfl) (fun _ _ _ h => h) (Or.inl ⟨by rfl, fun w0 hw0 => ?_⟩) (fun p hp _ => hSw p hp) ?_
  rotate_left
  · simp [Reads] at hw0
    go_simp
    try with_reducible rfl
  try go_simp
  refine takeU (i := 1) (v := ?_) rfl (by kernel_rfl) (fun _ _ _ h => h) (Or.inl ⟨by rfl, fun w0 hw0 => ?_⟩) (fun p hp _ => hSw p hp) ?_
  rotate_left
  · simp [Reads] at hw0
    go_simp
    try with_reducible rfl
  try go_simp
  refine takeU (i := 2) (v := ?_) rfl (by kernel_rfl) (fun _ _ _ h => h) (Or.inl ⟨by rfl, fun w0 hw0 => ?_⟩) (fun p hp _ => hSw p hp) ?_
  rotate_left
  · simp [Reads] at hw0
    go_simp
    try with_reducible rfl
  try go_simp
  refine takeU (i := 3) (v := ?_) rfl (by kernel_rfl) (fun _ _ _ h => h) (Or.inl ⟨by rfl, fun w0 hw0 => ?_⟩) (fun p hp _ => hSw p hp) ?_
  rotate_left
  · simp [Reads] at hw0
    go_simp
    try with_reducible rfl
  try go_simp
  refine takeU (i := 4) (v := ?_) rfl (by kernel_rfl) (fun _ _ _ h => h) (Or.inl ⟨by rfl, fun w0 hw0 => ?_⟩) (fun p hp _ => hSw p hp) ?_
  rotate_left
  · simp [Reads] at hw0
    go_simp
    try with_reducible rfl
  try go_simp
  refine takeU (i := 5) (v := ?_) rfl (by kernel_rfl) (fun _ _ _ h => h) (Or.inl ⟨by rfl, fun w0 hw0 => ?_⟩) (fun p hp _ => hSw p hp) ?_
  rotate_left
  · simp [Reads] at hw0
    go_simp
    try with_reducible rfl
  try go_simp
  refine takeU (i := 6) (v := .agg ms.toArray) rfl (by kernel_rfl) (fun _ _ _ h => h) (Or.inl ⟨by rfl, fun w0 hw0 => ?_⟩) (fun p hp _ => hSw p hp) ?_
  · simp [Reads] at hw0
    exact load_yields 49 (.tmp 3) rfl xb 0 23 rfl 49 _ _ hw0 Tryd.underlying49 rfl Tryd.sizeM (by simp [HST.out]) _ (by have := HST.out; rw [List.drop_zero]; rw [List.take_of_length_le (by simp [this])])
  refine oneU (i := 7) rfl (by kernel_rfl) (fun K hK => ?_)
  refine step_slice1 rfl 33 49 _ rfl i z (.agg ms.toArray) 23 Tryd.underlying33 hi hz hsz rfl (by simp [Value.cells, HST.out]) (by omega) (by omega) ?_
  have hX4 := hX3.drew.alloc (.cells ms.toArray 49)
  have hB4 := hB3.drew.alloc (.cells ms.toArray 49)
  have hN4 := Blk.fresh w3.drew 49 ms.toArray
  have hk4 := hk3.drew.alloc (.cells ms.toArray 49)
  have hO4 := own_keep hO3 ((Keeps.refl [] w3).drew.alloc (.cells ms.toArray 49)) (by simp)
  have hT4 : Sl (w3.drew.alloc (.cells ms.toArray 49)) 23 (some ⟨w3.heap.size, 0, none⟩) 1 1 ms := by
    have := Sl.of_blk (n := 1) (sz := 23) hN4 (by simp [HST.out]) (by decide) (by simpa using HS1.out)
    simpa using this
  have hxw : xb ≤ w3.heap.size := Nat.le_of_lt hX3.lt
  refine hK _ _ (fun p hp _ _ => rdsG_1 hB4 hX4 p hp) ?_
  clear hK K
  change wpAnyU _ _ _ _ _ _ _ _ (World.alloc (World.drew _) _)
  try go_simp
  refine oneU (i := 8) rfl (by kernel_rfl) (fun K hK => ?_)
  refine step_append_by rfl _ _ 33 33 rfl N 49 i z 23 256 Tryd.underlying33 hi hz hsz hby hzc r.ms.1 r.ms.2.1 r.ms.2.2 xs rfl hO4 _ rfl 1 _ (hT4.src Tryd.underlying33) (by unfold maxLen; omega) (by omega) (by have := hk4.size; rw [hxe] at this; exact Nat.le_trans hN this) ?_
  intro a2 c2 w5 hO5 hk5 hb5
  have hbm : b ∉ blks r.ms.1 := fun hx => by have := hON b hx; omega
  have hB5 := hB4.keep hk5 hbm
  have hX5 := hX4.keep hk5 (fun hx => by have := hON xb hx; omega)
  have hk05 := hk4.step hk5 (fun x hx => .inl (List.mem_cons_of_mem _ hx))
  refine hK _ _ (fun p hp _ _ => rdsG_1 hB5 hX5 p hp) ?_
  clear hK K hSw hk5 hB4 hX4 hk4 hN4 hT4 hX3 hB3 hk3
  have hSw := rdsG_1 hB5 hX5
  go_simp
  refine takeU (i := 9) (v := ?_) rfl (by kernel_rfl) (fun _ _ _ h => h) (Or.inl ⟨by rfl, fun w0 hw0 => ?_⟩) (fun p hp _ => hSw p hp) ?_
  rotate_left
  · simp [Reads] at hw0
    go_simp
    try with_reducible rfl
  try go_simp
  refine takeU (i := 10) (v := ?_) rfl (by kernel_rfl) (fun _ _ _ h => h) (Or.inl ⟨by rfl, fun w0 hw0 => ?_⟩) (fun p hp _ => hSw p hp) ?_
  rotate_left
  · simp [Reads] at hw0
    go_simp
    try with_reducible rfl
  try go_simp
  refine takeU (i := 11) (v := ?_) rfl (by kernel_rfl) (fun _ _ _ h => h) (Or.inl ⟨by rfl, fun w0 hw0 => ?_⟩) (fun p hp _ => hSw p hp) ?_
  rotate_left
  · simp [Reads] at hw0
    go_simp
    try with_reducible rfl
  try go_simp
  have hf := hB5.free
  have hcB := hB5.cell
  simp only [Rf.cells] at hcB
  have hlb := hB5.lt
  refine oneU (i := 12) rfl (by kernel_rfl) (fun K hK => ?_)
  go_simp
  have hB6 := (hB5.put 15 (.slice a2 (r.ms.2.1 + 1) c2)).eq (cs' := ({ r with ms := (a2, r.ms.2.1 + 1, c2) } : Rf).cells) (by simp [Rf.cells])
  have hks := (Keeps.refl [b] w5).set (p := ⟨b, 15, none⟩) (by simp) (.slice a2 (r.ms.2.1 + 1) c2)
  have hO6 := own_keep hO5 hks (fun x hx => by have := own_lt hO5 x hx; simp; omega)
  have hk6 := hk05.step hks (fun x hx => .inl (by simp at hx; simp [hx]))
  refine hK _ _ (fun p hp h1 _ => by simp only [List.mem_cons, List.not_mem_nil, or_false] at hp; rcases hp with rfl | rfl <;> exact waits_absurd h1 (by kernel_rfl)) ?_
  clear hK K
  refine doneU (by kernel_rfl) ?_
  go_wp2_with fail
  go_end0
  exact ⟨a2, c2, rfl, hB6, hO6, hk6⟩
end Go.Proofs.YtdeaelbelcjhcaaDoor
