/- A node of raft: sends. -/
import Derived.Test.YtdeaelbelcjhcaaDoorRaft13
import Derived.Test.YtdeaelbelcjhcaaDoorRaft2
import Derived.Test.YtdeaelbelcjhcaaDoorLaws2
import Derived.Test.YtdeaelbelcjhcaaDoorReg2
import Derived.Test.YtdeaelbelcjhcaaDoorBy


namespace Go.Proofs.YtdeaelbelcjhcaaDoor
open Go.RowKit

theorem Tryd.sizeM : (Tryd.prog.info? 49).map (·.size) = some 23 := by kernel_rfl
theorem infoM : ∃ i z, Tryd.prog.info? 49 = some i ∧ i.zero = some z ∧ i.size = 23 ∧ i.bytes = 256 ∧ z.cells.size = 23 := by
  have h : (Tryd.prog.info? 49).map (fun i => (i.size, i.bytes, (i.zero.map fun z => z.cells.size))) = some (23, 256, some 23) := by kernel_rfl
  obtain ⟨i, hi, hx⟩ := Option.map_eq_some_iff.1 h
  simp only [Prod.mk.injEq] at hx
  obtain ⟨z, hz, hc⟩ := Option.map_eq_some_iff.1 hx.2.2
  exact ⟨i, z, hi, hz, hx.1, hx.2.1, hc⟩

/-- a struct out of a block that is known whole, as an operation of a region that draws -/
theorem load_yields {P : Program} {w : World} {o : Oper} {a : Act} (ty : TypeId) (x : Operand) (ho : o.op = .load ty x) (b off n : Nat) (hx : a.eval x = .pointer (some ⟨b, off, none⟩))
    (t : TypeId) (cs : Array Value) (d : TypeDesc) (hB : Blk w b t cs) (hu : P.underlying ty = some d)
    (hd : (match d with | .struct _ | .array _ _ => true | _ => false) = true) (hsz : (P.info? ty).map (·.size) = some n) (hfit : off + n ≤ cs.size)
    (vs : Array Value) (hvs : ((cs.toList.drop off).take n).toArray = vs) : (execOp a.eval o).run P w = .ok (.value (.agg vs)) w := by
  have hr := run_load_part (P := P) b off n t ty cs d hB hu hd hsz hfit
  rw [hvs] at hr
  unfold execOp
  simp only [ho, hx, Instr.loadAt, Instr.sureAddr, Sem.run_bind, Sem.run_pure, Result.andThen_ok, hr]

theorem rdsS_0 {w : World} {b : Nat} {r : Rf} (hB : Blk w b 63 r.cells) : ∀ p ∈ [((3 : Nat), fun w0 : World => w0.cell? ⟨b, 0, none⟩ = some (.int .i64 r.id)), ((8 : Nat), fun w0 : World => w0.cell? ⟨b, 2, none⟩ = some (.int .u64 r.tm))], p.2 w := by
  have h0 := hB.cell 0
  have h2 := hB.cell 2
  simp [Rf.cells] at h0 h2
  intro p hp
  simp at hp
  rcases hp with rfl | rfl
  · exact h0
  · exact h2
theorem rdsS_1 {w : World} {b mb : Nat} {r : Rf} {cs : Array Value} (hms : r.ms = (none, 0, 0)) (hB : Blk w b 63 r.cells) (hM : Blk w mb 49 cs) : ∀ p ∈ [((5 : Nat), fun w0 : World => w0.cell? ⟨b, 15, none⟩ = some (.slice none 0 0)), ((6 : Nat), fun w0 : World => Blk w0 mb 49 cs)], p.2 w := by
  have h0 := hB.cell 15
  simp [Rf.cells, hms] at h0
  intro p hp
  simp at hp
  rcases hp with rfl | rfl
  · exact h0
  · exact hM

set_option maxRecDepth 100000 in
set_option maxHeartbeats 8000000 in
theorem rsends (b : Nat) (r : Rf) (k dst ix : Int) (ok : Bool) (w : World) (hB : Blk w b 63 r.cells) (hms : r.ms = (none, 0, 0)) :
    Calls Tryd.prog 41 #[.pointer (some ⟨b, 0, none⟩), .agg #[.int .i64 (k), .int .i64 (0), .int .i64 (dst), .int .u64 (0), .int .u64 (ix), .int .u64 (0), .slice none 0 0, .int .u64 0, .int .u64 0, .bool (ok), .int .i64 0, .slice none 0 0, .bool false, .int .u64 0, .int .u64 0, .string ⟨#[]⟩, .int .u64 0, .int .i64 0, .slice none 0 0, .slice none 0 0, .int .i64 0, .int .u64 0, .int .i64 0]] w fun e w' => ∃ ao c, e = .returned (.tuple #[]) ∧ Blk w' b 63 ({ r with ms := (ao, 1, c) } : Rf).cells ∧
      Sl w' 23 ao 1 c [.int .i64 (k), .int .i64 (r.id), .int .i64 (dst), .int .u64 (r.tm), .int .u64 (ix), .int .u64 (0), .slice none 0 0, .int .u64 0, .int .u64 0, .bool (ok), .int .i64 0, .slice none 0 0, .bool false, .int .u64 0, .int .u64 0, .string ⟨#[]⟩, .int .u64 0, .int .i64 0, .slice none 0 0, .slice none 0 0, .int .i64 0, .int .u64 0, .int .i64 0] ∧ (∀ ad, ao = some ad → w.heap.size ≤ ad.block) ∧ Keeps [b] w w' := by
  obtain ⟨i, z, hi, hz, hsz, hby, hzc⟩ := infoM
  have hl := hB.lt
  have hX := Blk.fresh w 49 #[.int .i64 (k), .int .i64 (0), .int .i64 (dst), .int .u64 (0), .int .u64 (ix), .int .u64 (0), .slice none 0 0, .int .u64 0, .int .u64 0, .bool (ok), .int .i64 0, .slice none 0 0, .bool false, .int .u64 0, .int .u64 0, .string ⟨#[]⟩, .int .u64 0, .int .i64 0, .slice none 0 0, .slice none 0 0, .int .i64 0, .int .u64 0, .int .i64 0]
  have hB1 := hB.alloc (.cells #[.int .i64 (k), .int .i64 (0), .int .i64 (dst), .int .u64 (0), .int .u64 (ix), .int .u64 (0), .slice none 0 0, .int .u64 0, .int .u64 0, .bool (ok), .int .i64 0, .slice none 0 0, .bool false, .int .u64 0, .int .u64 0, .string ⟨#[]⟩, .int .u64 0, .int .i64 0, .slice none 0 0, .slice none 0 0, .int .i64 0, .int .u64 0, .int .i64 0] 49)
  have hk1 := (Keeps.refl [b] w).alloc (.cells #[.int .i64 (k), .int .i64 (0), .int .i64 (dst), .int .u64 (0), .int .u64 (ix), .int .u64 (0), .slice none 0 0, .int .u64 0, .int .u64 0, .bool (ok), .int .i64 0, .slice none 0 0, .bool false, .int .u64 0, .int .u64 0, .string ⟨#[]⟩, .int .u64 0, .int .i64 0, .slice none 0 0, .slice none 0 0, .int .i64 0, .int .u64 0, .int .i64 0] 49)
  go_enter Tryd.func41, Tryd.ntmps41
  go_upto_region 1 with (fail)
  generalize World.alloc w _ = w1 at *
  generalize hxe : w.heap.size = xb at *
  have hSw := rdsS_0 hB1.drew
  have hl1 := hX.lt
  have hbx : b ≠ xb := by omega
  refine startU [((3 : Nat), fun w0 : World => w0.cell? ⟨b, 0, none⟩ = some (.int .i64 r.id)), ((8 : Nat), fun w0 : World => w0.cell? ⟨b, 2, none⟩ = some (.int .u64 r.tm))] (by kernel_rfl) ?_
  refine takeU (i := 0) (v := ?_) rfl (by kernel_rfl) (fun _ _ _ h => h) (Or.inl ⟨by rfl, fun w0 hw0 => ?_⟩) (fun p hp _ => hSw p hp) ?_
  rotate_left
  · simp [Reads] at hw0
    go_simp
    try with_reducible rfl
  try go_simp
  refine takeU (i := 1) (v := ?_) rfl (by kernel_rfl) (fun _ _ _ h => h) (Or.inl ⟨by rfl, fun w0 hw0 => ?_⟩) (fun p hp _ => hSw p hp) ?_
  rotate_left
  · simp [Reads] at hw0
    go_simp
    try with_reducible rfl
  try go_simp
  refine takeU (i := 2) (v := ?_) rfl (by kernel_rfl) (fun _ _ _ h => h) (Or.inl ⟨by rfl, fun w0 hw0 => ?_⟩) (fun p hp _ => hSw p hp) ?_
  rotate_left
  · simp [Reads] at hw0
    go_simp
    try with_reducible rfl
  try go_simp
  refine takeU (i := 3) (v := ?_) rfl (by kernel_rfl) (fun _ _ _ h => h) (Or.inl ⟨by rfl, fun w0 hw0 => ?_⟩) (fun p hp _ => hSw p hp) ?_
  rotate_left
  · simp [Reads] at hw0
    go_simp
    try with_reducible rfl
  try go_simp
  refine takeU (i := 4) (v := ?_) rfl (by kernel_rfl) (fun _ _ _ h => h) (Or.inl ⟨by rfl, fun w0 hw0 => ?_⟩) (fun p hp _ => hSw p hp) ?_
  rotate_left
  · simp [Reads] at hw0
    go_simp
    try with_reducible rfl
  try go_simp
  refine takeU (i := 5) (v := ?_) rfl (by kernel_rfl) (fun _ _ _ h => h) (Or.inl ⟨by rfl, fun w0 hw0 => ?_⟩) (fun p hp _ => hSw p hp) ?_
  rotate_left
  · simp [Reads] at hw0
    go_simp
    try with_reducible rfl
  try go_simp
  refine takeU (i := 6) (v := ?_) rfl (by kernel_rfl) (fun _ _ _ h => h) (Or.inl ⟨by rfl, fun w0 hw0 => ?_⟩) (fun p hp _ => hSw p hp) ?_
  rotate_left
  · simp [Reads] at hw0
    go_simp
    try with_reducible rfl
  try go_simp
  refine takeU (i := 7) (v := ?_) rfl (by kernel_rfl) (fun _ _ _ h => h) (Or.inl ⟨by rfl, fun w0 hw0 => ?_⟩) (fun p hp _ => hSw p hp) ?_
  rotate_left
  · simp [Reads] at hw0
    go_simp
    try with_reducible rfl
  try go_simp
  refine takeU (i := 8) (v := ?_) rfl (by kernel_rfl) (fun _ _ _ h => h) (Or.inl ⟨by rfl, fun w0 hw0 => ?_⟩) (fun p hp _ => hSw p hp) ?_
  rotate_left
  · simp [Reads] at hw0
    go_simp
    try with_reducible rfl
  try go_simp
  refine takeU (i := 9) (v := ?_) rfl (by kernel_rfl) (fun _ _ _ h => h) (Or.inl ⟨by rfl, fun w0 hw0 => ?_⟩) (fun p hp _ => hSw p hp) ?_
  rotate_left
  · simp [Reads] at hw0
    go_simp
    try with_reducible rfl
  try go_simp
  have hf := hX.free
  have hcX := hX.cell
  refine oneU (i := 10) rfl (by kernel_rfl) (fun K hK => ?_)
  go_simp
  have hX2 := (hX.put 1 (.int .i64 r.id)).drew
  have hB2 := (hB1.other (p := ⟨xb, 1, none⟩) hbx (.int .i64 r.id)).drew
  have hk2 := (hk1.set (p := ⟨xb, 1, none⟩) (.inr (by simp; omega)) (.int .i64 r.id)).drew
  refine hK _ _ (fun p hp _ _ => rdsS_0 hB2 p hp) ?_
  clear hK K
  try go_simp
  change wpAnyU _ _ _ _ _ _ _ _ (World.drew (World.setCell _ _ _))
  replace hX2 := hX2.eq (cs' := #[.int .i64 (k), .int .i64 (r.id), .int .i64 (dst), .int .u64 (0), .int .u64 (ix), .int .u64 (0), .slice none 0 0, .int .u64 0, .int .u64 0, .bool (ok), .int .i64 0, .slice none 0 0, .bool false, .int .u64 0, .int .u64 0, .string ⟨#[]⟩, .int .u64 0, .int .i64 0, .slice none 0 0, .slice none 0 0, .int .i64 0, .int .u64 0, .int .i64 0]) (by simp)
  generalize (World.setCell w1 _ _).drew = w2 at *
  clear hSw hB1 hX hk1 hcX hf hl1
  have hSw := rdsS_0 hB2
  have hl1 := hX2.lt
  refine takeU (i := 11) (v := ?_) rfl (by kernel_rfl) (fun _ _ _ h => h) (Or.inl ⟨by rfl, fun w0 hw0 => ?_⟩) (fun p hp _ => hSw p hp) ?_
  rotate_left
  · simp [Reads] at hw0
    go_simp
    try with_reducible rfl
  try go_simp
  have hf := hX2.free
  have hcX := hX2.cell
  refine oneU (i := 12) rfl (by kernel_rfl) (fun K hK => ?_)
  go_simp
  have hX3 := (hX2.put 3 (.int .u64 r.tm)).eq (cs' := #[.int .i64 (k), .int .i64 (r.id), .int .i64 (dst), .int .u64 (r.tm), .int .u64 (ix), .int .u64 (0), .slice none 0 0, .int .u64 0, .int .u64 0, .bool (ok), .int .i64 0, .slice none 0 0, .bool false, .int .u64 0, .int .u64 0, .string ⟨#[]⟩, .int .u64 0, .int .i64 0, .slice none 0 0, .slice none 0 0, .int .i64 0, .int .u64 0, .int .i64 0]) (by simp)
  have hB3 := (hB2.other (p := ⟨xb, 3, none⟩) hbx (.int .u64 r.tm))
  have hk3 := (hk2.set (p := ⟨xb, 3, none⟩) (.inr (by simp; omega)) (.int .u64 r.tm))
  refine hK _ _ (fun p hp _ _ => rdsS_0 hB3 p hp) ?_
  clear hK K
  refine doneU (by kernel_rfl) ?_
  generalize World.setCell w2 _ _ = w3 at *
  clear hSw hB2 hX2 hk2 hcX hf hl1
  have hlB := hB3.lt
  go_upto_region 2 with (fail)
  have hSw := rdsS_1 hms hB3.drew hX3.drew
  refine startU [((5 : Nat), fun w0 : World => w0.cell? ⟨b, 15, none⟩ = some (.slice none 0 0)), ((6 : Nat), fun w0 : World => Blk w0 xb 49 #[.int .i64 (k), .int .i64 (r.id), .int .i64 (dst), .int .u64 (r.tm), .int .u64 (ix), .int .u64 (0), .slice none 0 0, .int .u64 0, .int .u64 0, .bool (ok), .int .i64 0, .slice none 0 0, .bool false, .int .u64 0, .int .u64 0, .string ⟨#[]⟩, .int .u64 0, .int .i64 0, .slice none 0 0, .slice none 0 0, .int .i64 0, .int .u64 0, .int .i64 0])] (by kernel_rfl) ?_
  refine takeU (i := 0) (v := ?_) rfl (by kernel_rfl) (fun _ _ _ h => h) (Or.inl ⟨by rfl, fun w0 hw0 => ?_⟩) (fun p hp _ => hSw p hp) ?_
  rotate_left
  · simp [Reads] at hw0
    go_simp
    try with_reducible rfl
  try go_simp
  refine takeU (i := 1) (v := ?_) rfl (by kernel_rfl) (fun _ _ _ h => h) (Or.inl ⟨by rfl, fun w0 hw0 => ?_⟩) (fun p hp _ => hSw p hp) ?_
  rotate_left
  · simp [Reads] at hw0
    go_simp
    try with_reducible rfl
  try go_simp
  refine takeU (i := 2) (v := ?_) rfl (by kernel_rfl) (fun _ _ _ h => h) (Or.inl ⟨by rfl, fun w0 hw0 => ?_⟩) (fun p hp _ => hSw p hp) ?_
  rotate_left
  · simp [Reads] at hw0
    go_simp
    try with_reducible rfl
  try go_simp
  refine takeU (i := 3) (v := ?_) rfl (by kernel_rfl) (fun _ _ _ h => h) (Or.inl ⟨by rfl, fun w0 hw0 => ?_⟩) (fun p hp _ => hSw p hp) ?_
  rotate_left
  · simp [Reads] at hw0
    go_simp
    try with_reducible rfl
  try go_simp
  refine takeU (i := 4) (v := ?_) rfl (by kernel_rfl) (fun _ _ _ h => h) (Or.inl ⟨by rfl, fun w0 hw0 => ?_⟩) (fun p hp _ => hSw p hp) ?_
  rotate_left
  · simp [Reads] at hw0
    go_simp
    try with_reducible rfl
  try go_simp
  refine takeU (i := 5) (v := ?_) rfl (by kernel_rfl) (fun _ _ _ h => h) (Or.inl ⟨by rfl, fun w0 hw0 => ?_⟩) (fun p hp _ => hSw p hp) ?_
  rotate_left
  · simp [Reads] at hw0
    go_simp
    try with_reducible rfl
  try go_simp
  refine takeU (i := 6) (v := .agg #[.int .i64 (k), .int .i64 (r.id), .int .i64 (dst), .int .u64 (r.tm), .int .u64 (ix), .int .u64 (0), .slice none 0 0, .int .u64 0, .int .u64 0, .bool (ok), .int .i64 0, .slice none 0 0, .bool false, .int .u64 0, .int .u64 0, .string ⟨#[]⟩, .int .u64 0, .int .i64 0, .slice none 0 0, .slice none 0 0, .int .i64 0, .int .u64 0, .int .i64 0]) rfl (by kernel_rfl) (fun _ _ _ h => h) (Or.inl ⟨by rfl, fun w0 hw0 => ?_⟩) (fun p hp _ => hSw p hp) ?_
  · simp [Reads] at hw0
    exact load_yields 49 (.tmp 3) rfl xb 0 23 rfl 49 _ _ hw0 Tryd.underlying49 rfl Tryd.sizeM (by simp) _ rfl
  refine oneU (i := 7) rfl (by kernel_rfl) (fun K hK => ?_)
  go_simp
  have hX4 := hX3.drew.alloc (.cells #[.int .i64 (k), .int .i64 (r.id), .int .i64 (dst), .int .u64 (r.tm), .int .u64 (ix), .int .u64 (0), .slice none 0 0, .int .u64 0, .int .u64 0, .bool (ok), .int .i64 0, .slice none 0 0, .bool false, .int .u64 0, .int .u64 0, .string ⟨#[]⟩, .int .u64 0, .int .i64 0, .slice none 0 0, .slice none 0 0, .int .i64 0, .int .u64 0, .int .i64 0] 49)
  have hB4 := hB3.drew.alloc (.cells #[.int .i64 (k), .int .i64 (r.id), .int .i64 (dst), .int .u64 (r.tm), .int .u64 (ix), .int .u64 (0), .slice none 0 0, .int .u64 0, .int .u64 0, .bool (ok), .int .i64 0, .slice none 0 0, .bool false, .int .u64 0, .int .u64 0, .string ⟨#[]⟩, .int .u64 0, .int .i64 0, .slice none 0 0, .slice none 0 0, .int .i64 0, .int .u64 0, .int .i64 0] 49)
  have hN4 := Blk.fresh w3.drew 49 #[.int .i64 (k), .int .i64 (r.id), .int .i64 (dst), .int .u64 (r.tm), .int .u64 (ix), .int .u64 (0), .slice none 0 0, .int .u64 0, .int .u64 0, .bool (ok), .int .i64 0, .slice none 0 0, .bool false, .int .u64 0, .int .u64 0, .string ⟨#[]⟩, .int .u64 0, .int .i64 0, .slice none 0 0, .slice none 0 0, .int .i64 0, .int .u64 0, .int .i64 0]
  have hk4 := hk3.drew.alloc (.cells #[.int .i64 (k), .int .i64 (r.id), .int .i64 (dst), .int .u64 (r.tm), .int .u64 (ix), .int .u64 (0), .slice none 0 0, .int .u64 0, .int .u64 0, .bool (ok), .int .i64 0, .slice none 0 0, .bool false, .int .u64 0, .int .u64 0, .string ⟨#[]⟩, .int .u64 0, .int .i64 0, .slice none 0 0, .slice none 0 0, .int .i64 0, .int .u64 0, .int .i64 0] 49)
  have hT4 : Sl (w3.drew.alloc (.cells #[.int .i64 (k), .int .i64 (r.id), .int .i64 (dst), .int .u64 (r.tm), .int .u64 (ix), .int .u64 (0), .slice none 0 0, .int .u64 0, .int .u64 0, .bool (ok), .int .i64 0, .slice none 0 0, .bool false, .int .u64 0, .int .u64 0, .string ⟨#[]⟩, .int .u64 0, .int .i64 0, .slice none 0 0, .slice none 0 0, .int .i64 0, .int .u64 0, .int .i64 0] 49)) 23 (some ⟨w3.heap.size, 0, none⟩) 1 1 [.int .i64 (k), .int .i64 (r.id), .int .i64 (dst), .int .u64 (r.tm), .int .u64 (ix), .int .u64 (0), .slice none 0 0, .int .u64 0, .int .u64 0, .bool (ok), .int .i64 0, .slice none 0 0, .bool false, .int .u64 0, .int .u64 0, .string ⟨#[]⟩, .int .u64 0, .int .i64 0, .slice none 0 0, .slice none 0 0, .int .i64 0, .int .u64 0, .int .i64 0] := Sl.of_blk hN4 rfl (by decide) (by simp [Value.oneCell'])
  have hxw : xb ≤ w3.heap.size := Nat.le_of_lt hX3.lt
  refine hK _ _ (fun p hp _ _ => rdsS_1 hms hB4 hX4 p hp) ?_
  clear hK K
  change wpAnyU _ _ _ _ _ _ _ _ (World.alloc (World.drew _) _)
  try go_simp
  refine oneU (i := 8) rfl (by kernel_rfl) (fun K hK => ?_)
  refine step_append_by rfl _ _ 33 33 rfl xb 49 i z 23 256 Tryd.underlying33 hi hz hsz hby hzc none _ 0 _ rfl (World.ownsRow_nil _ _ _ _) _ rfl 1 _ (hT4.src Tryd.underlying33) (by unfold maxLen; omega) (by omega) (by have := hk4.size; rw [hxe] at this; exact this) ?_
  intro a2 c2 w5 hO5 hk5 hb5
  simp only [List.nil_append, Nat.zero_add] at hO5 ⊢
  obtain ⟨a', c', he, hS5, _⟩ := own_sl hO5 (by simp [Value.oneCell'])
  simp only [Value.slice.injEq, true_and] at he
  obtain ⟨rfl, rfl⟩ := he
  have hB5 := hB4.keep hk5 (by simp)
  have hX5 := hX4.keep hk5 (by simp)
  have hk05 := hk4.step hk5 (fun x hx => by simp at hx)
  have hab : ∀ ad, a2 = some ad → w3.heap.size ≤ ad.block := fun ad e => by
    rcases hb5 ad e with h | h
    · simp at h
    · simp at h; omega
  refine hK _ _ (fun p hp _ _ => rdsS_1 hms hB5 hX5 p hp) ?_
  clear hK K hSw hO5 hk5 hb5 hB4 hX4 hk4 hN4 hT4 hX3 hB3 hk3
  have hSw := rdsS_1 hms hB5 hX5
  go_simp
  refine takeU (i := 9) (v := ?_) rfl (by kernel_rfl) (fun _ _ _ h => h) (Or.inl ⟨by rfl, fun w0 hw0 => ?_⟩) (fun p hp _ => hSw p hp) ?_
  rotate_left
  · simp [Reads] at hw0
    go_simp
    try with_reducible rfl
  try go_simp
  refine takeU (i := 10) (v := ?_) rfl (by kernel_rfl) (fun _ _ _ h => h) (Or.inl ⟨by rfl, fun w0 hw0 => ?_⟩) (fun p hp _ => hSw p hp) ?_
  rotate_left
  · simp [Reads] at hw0
    go_simp
    try with_reducible rfl
  try go_simp
  refine takeU (i := 11) (v := ?_) rfl (by kernel_rfl) (fun _ _ _ h => h) (Or.inl ⟨by rfl, fun w0 hw0 => ?_⟩) (fun p hp _ => hSw p hp) ?_
  rotate_left
  · simp [Reads] at hw0
    go_simp
    try with_reducible rfl
  try go_simp
  have hf := hB5.free
  have hcB := hB5.cell
  simp only [Rf.cells, hms] at hcB
  have hlb := hB5.lt
  refine oneU (i := 12) rfl (by kernel_rfl) (fun K hK => ?_)
  go_simp
  have hB6 := (hB5.put 15 (.slice a2 1 c2)).eq (cs' := ({ r with ms := (a2, 1, c2) } : Rf).cells) (by simp [Rf.cells])
  have hks := (Keeps.refl [b] w5).set (p := ⟨b, 15, none⟩) (by simp) (.slice a2 1 c2)
  have hS6 := hS5.keep hks (fun ad e _ => by have := hab ad e; simp; omega)
  have hk6 := hk05.trans hks
  refine hK _ _ (fun p hp h1 _ => by simp only [List.mem_cons, List.not_mem_nil, or_false] at hp; rcases hp with rfl | rfl <;> exact waits_absurd h1 (by kernel_rfl)) ?_
  clear hK K
  refine doneU (by kernel_rfl) ?_
  go_wp2_with fail
  go_end0
  exact ⟨a2, c2, rfl, hB6, hS6, fun ad e => by have := hab ad e; omega, hk6⟩
end Go.Proofs.YtdeaelbelcjhcaaDoor
