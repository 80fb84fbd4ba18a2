/- A node of a group: feeds, where a node lacks entries that are there. -/
import Derived.Test.YtdeaelbelcjhcaaDoorRaft22


namespace Go.Proofs.YtdeaelbelcjhcaaDoor
open Go.RowKit

theorem Tryd.sizeP : (Tryd.prog.info? 78).map (·.size) = some 4 := by kernel_rfl

/-- a message of entries, as it is built -/
def fmsg0 (i : Nat) (ix lt : Int) (en : Value) (cm rd : Int) : List Value := [.int .i64 3, .int .i64 0, .int .i64 (i : Int), .int .u64 0, .int .u64 ix, .int .u64 lt, en, .int .u64 cm, .int .u64 rd, .bool false, .int .i64 0, .slice none 0 0, .bool false, .int .u64 0, .int .u64 0, .string ⟨#[]⟩, .int .u64 0, .int .i64 0, .slice none 0 0, .slice none 0 0, .int .i64 0, .int .u64 0, .int .i64 0]

theorem built_F (i : Nat) (ix lt : Int) (ea : Option Addr) (el ec : Nat) (cm rd : Int) :
    Tryd.prog.built 49 [(0, .int .i64 3), (2, .int .i64 (i : Int)), (4, .int .u64 ix), (5, .int .u64 lt), (6, .slice ea el ec), (7, .int .u64 cm), (8, .int .u64 rd)] = some (fmsg0 i ix lt (.slice ea el ec) cm rd).toArray := by kernel_rfl

theorem rdsF {w : World} {b xb : Nat} {r : Rf} {nx : Int} (hB : Blk w b 63 r.cells) (hX : w.cell? ⟨xb, 0, none⟩ = some (.int .u64 nx)) : ∀ p ∈ [((3 : Nat), fun w0 : World => w0.cell? ⟨xb, 0, none⟩ = some (.int .u64 nx)), ((9 : Nat), fun w0 : World => w0.cell? ⟨b, 4, none⟩ = some (.pointer (some ⟨r.lg, 0, none⟩))), ((11 : Nat), fun w0 : World => w0.cell? ⟨xb, 0, none⟩ = some (.int .u64 nx)), ((16 : Nat), fun w0 : World => w0.cell? ⟨b, 5, none⟩ = some (.int .u64 r.cm)), ((20 : Nat), fun w0 : World => w0.cell? ⟨b, 12, none⟩ = some (.int .u64 r.rd))], p.2 w := by
  have h4 := hB.cell 4
  have h5 := hB.cell 5
  have h12 := hB.cell 12
  simp [Rf.cells] at h4 h5 h12
  intro p hp
  simp at hp
  rcases hp with rfl | rfl | rfl | rfl | rfl
  · exact hX
  · exact h4
  · exact hX
  · exact h5
  · exact h12

theorem pe_cells {w : World} {pb : Nat} {ps : List Pe} {i : Nat} {p : Pe} (hP : Blk w pb 78 (pcs ps).toArray) (hp : ps[i]? = some p) :
    w.cell? ⟨pb, i * 4, none⟩ = some (.int .u64 p.nx) ∧ w.cell? ⟨pb, i * 4 + 1, none⟩ = some (.int .u64 p.mt) ∧ w.cell? ⟨pb, i * 4 + 2, none⟩ = some (.int .u64 p.ak) ∧ w.cell? ⟨pb, i * 4 + 3, none⟩ = some (.int .i64 p.off) := by
  have h0 := pcs_at hp 0 (by omega)
  have h1 := pcs_at hp 1 (by omega)
  have h2 := pcs_at hp 2 (by omega)
  have h3 := pcs_at hp 3 (by omega)
  simp only [Nat.add_zero] at h0
  refine ⟨?_, ?_, ?_, ?_⟩ <;> rw [hP.cell, List.getElem?_toArray]
  · rw [h0]; rfl
  · rw [h1]; rfl
  · rw [h2]; rfl
  · rw [h3]; rfl

set_option maxRecDepth 100000 in
set_option maxHeartbeats 8000000 in
theorem rfeeds (N b pb : Nat) (r : Rf) (g : Lg) (ps : List Pe) (p : Pe) (i : Nat) (xs : List Value) (w : World) (hR : RC w N b pb r g ps) (hO : Ow w N r.ms xs) (hp : ps[i]? = some p) (h0 : 0 ≤ g.base) (h1 : g.last < 900000) (hn0 : g.base < p.nx) (hn1 : p.nx ≤ g.last + 1) (hm : r.ms.2.1 ≤ 100) :
    Calls Tryd.prog 40 #[.pointer (some ⟨b, 0, none⟩), .int .i64 (i : Int)] w fun e w' => ∃ ao c ea el ec, e = .returned (.tuple #[]) ∧ RC w' N b pb { r with ms := (ao, r.ms.2.1 + 1, c) } g ps ∧
      Ow w' N (ao, r.ms.2.1 + 1, c) (xs ++ stamp r (fmsg0 i (p.nx - 1) (g.at (p.nx - 1)) (.slice ea el ec) r.cm r.rd)) ∧ Keeps (b :: blks r.ms.1) w w' := by
  obtain ⟨hil, hpe⟩ := List.getElem?_eq_some_iff.1 hp
  have hiL : (i : Int) < (ps.length : Int) := by omega
  have hON := own_lt hO
  obtain ⟨c0, c1, c2, c3⟩ := pe_cells hR.P hp
  have hl := hR.B.lt
  have hlP := hR.P.lt
  have hc := hR.B.cell
  simp only [Rf.cells, hR.hps] at hc
  clear hp hpe hil
  go_enter Tryd.func40, Tryd.ntmps40
  go_upto_region 1 with (fail)
  have hX := Blk.fresh w 78 p.cells.toArray
  have hk1 := (Keeps.refl (b :: blks r.ms.1) w).alloc (.cells p.cells.toArray 78)
  have hR1 := hR.keep0 ((Keeps.refl [] w).alloc (.cells p.cells.toArray 78))
  have hO1 := own_keep hO ((Keeps.refl [] w).alloc (.cells p.cells.toArray 78)) (by simp)
  simp only [Pe.cells] at hX hk1 hR1 hO1
  have hNw := hR.size
  generalize World.alloc w _ = w1 at *
  generalize hxe : w.heap.size = xb at *
  clear hc hl hlP c0 c1 c2 c3 hO
  have hc := hR1.B.cell
  simp only [Rf.cells] at hc
  have hl := hR1.B.lt
  go_wp2_with fail
  refine (lbase r.lg g w1 hR1.L.at).mono ?_
  rintro e w2 ⟨rfl, hk2⟩
  have hX2 := hX.keep hk2 (by simp)
  have hR2 := hR1.keep0 hk2
  have hO2 := own_keep hO1 hk2 (by simp)
  have hk02 := hk1.trans hk2.of_nil
  clear hc hl hX hk1 hR1 hO1 hk2
  have hc := hR2.B.cell
  simp only [Rf.cells] at hc
  have hl := hR2.B.lt
  have hcX := hX2.cell
  have hlX := hX2.lt
  have n1 : ¬ (p.nx ≤ g.base) := by omega
  have q1 : IntKind.u64.wrap (p.nx - 1) = p.nx - 1 := IntWalk.u64_in _ (by have := h1; unfold Lg.last at *; omega)
  have HT := Lib.hid (fun m => lterm_any r.lg g (p.nx - 1) (w2.drewN m) (hR2.keep0 ((Keeps.refl [] w2).drewN m)).L.at h0 (by omega) (by omega) (by omega))
  go_upto_region 4 with (fail)
  go_quiet ((go_at_call 31; exact Calls.quiet_of (HT.out _)))
  have hX3 := hX2.drewN nq
  have hR3 := hR2.keep0 ((Keeps.refl [] w2).drewN nq)
  have hO3 := own_keep hO2 ((Keeps.refl [] w2).drewN nq) (by simp)
  have hk03 := hk02.drewN nq
  clear HT hc hl hcX hlX hX2 hR2 hO2 hk02
  generalize World.drewN w2 nq = w3 at *
  go_upto_region 5 with (fail)
  have hcX : w3.drew.cell? ⟨xb, 0, none⟩ = some (.int .u64 p.nx) := by rw [hX3.drew.cell]; rfl
  have hSw := rdsF hR3.B.drew hcX
  refine startU [((3 : Nat), fun w0 : World => w0.cell? ⟨xb, 0, none⟩ = some (.int .u64 p.nx)), ((9 : Nat), fun w0 : World => w0.cell? ⟨b, 4, none⟩ = some (.pointer (some ⟨r.lg, 0, none⟩))), ((11 : Nat), fun w0 : World => w0.cell? ⟨xb, 0, none⟩ = some (.int .u64 p.nx)), ((16 : Nat), fun w0 : World => w0.cell? ⟨b, 5, none⟩ = some (.int .u64 r.cm)), ((20 : Nat), fun w0 : World => w0.cell? ⟨b, 12, none⟩ = some (.int .u64 r.rd))] (by kernel_rfl) ?_
  refine takeU (i := 0) (v := ?_) rfl (by kernel_rfl) (fun _ _ _ h => h) (Or.inl ⟨by rfl, fun w0 hw0 => ?_⟩) (fun p hp _ => hSw p hp) ?_
  rotate_left
  · simp [Reads] at hw0
    go_simp
    try with_reducible rfl
  try go_simp
  refine takeU (i := 1) (v := ?_) rfl (by kernel_rfl) (fun _ _ _ h => h) (Or.inl ⟨by rfl, fun w0 hw0 => ?_⟩) (fun p hp _ => hSw p hp) ?_
  rotate_left
  · simp [Reads] at hw0
    go_simp
    try with_reducible rfl
  try go_simp
  refine takeU (i := 2) (v := ?_) rfl (by kernel_rfl) (fun _ _ _ h => h) (Or.inl ⟨by rfl, fun w0 hw0 => ?_⟩) (fun p hp _ => hSw p hp) ?_
  rotate_left
  · simp [Reads] at hw0
    go_simp
    try with_reducible rfl
  try go_simp
  refine takeU (i := 3) (v := ?_) rfl (by kernel_rfl) (fun _ _ _ h => h) (Or.inl ⟨by rfl, fun w0 hw0 => ?_⟩) (fun p hp _ => hSw p hp) ?_
  rotate_left
  · simp [Reads] at hw0
    go_simp
    try with_reducible rfl
  try go_simp
  refine takeU (i := 4) (v := ?_) rfl (by kernel_rfl) (fun _ _ _ h => h) (Or.inl ⟨by rfl, fun w0 hw0 => ?_⟩) (fun p hp _ => hSw p hp) ?_
  rotate_left
  · simp [Reads] at hw0
    go_simp
    try with_reducible rfl
  try go_simp
  refine takeU (i := 5) (v := ?_) rfl (by kernel_rfl) (fun _ _ _ h => h) (Or.inl ⟨by rfl, fun w0 hw0 => ?_⟩) (fun p hp _ => hSw p hp) ?_
  rotate_left
  · simp [Reads] at hw0
    go_simp
    try with_reducible rfl
  try go_simp
  refine takeU (i := 6) (v := ?_) rfl (by kernel_rfl) (fun _ _ _ h => h) (Or.inl ⟨by rfl, fun w0 hw0 => ?_⟩) (fun p hp _ => hSw p hp) ?_
  rotate_left
  · simp [Reads] at hw0
    go_simp
    try with_reducible rfl
  try go_simp
  refine takeU (i := 7) (v := ?_) rfl (by kernel_rfl) (fun _ _ _ h => h) (Or.inl ⟨by rfl, fun w0 hw0 => ?_⟩) (fun p hp _ => hSw p hp) ?_
  rotate_left
  · simp [Reads] at hw0
    go_simp
    try with_reducible rfl
  try go_simp
  refine takeU (i := 8) (v := ?_) rfl (by kernel_rfl) (fun _ _ _ h => h) (Or.inl ⟨by rfl, fun w0 hw0 => ?_⟩) (fun p hp _ => hSw p hp) ?_
  rotate_left
  · simp [Reads] at hw0
    go_simp
    try with_reducible rfl
  try go_simp
  refine takeU (i := 9) (v := ?_) rfl (by kernel_rfl) (fun _ _ _ h => h) (Or.inl ⟨by rfl, fun w0 hw0 => ?_⟩) (fun p hp _ => hSw p hp) ?_
  rotate_left
  · simp [Reads] at hw0
    go_simp
    try with_reducible rfl
  try go_simp
  refine takeU (i := 10) (v := ?_) rfl (by kernel_rfl) (fun _ _ _ h => h) (Or.inl ⟨by rfl, fun w0 hw0 => ?_⟩) (fun p hp _ => hSw p hp) ?_
  rotate_left
  · simp [Reads] at hw0
    go_simp
    try with_reducible rfl
  try go_simp
  refine takeU (i := 11) (v := ?_) rfl (by kernel_rfl) (fun _ _ _ h => h) (Or.inl ⟨by rfl, fun w0 hw0 => ?_⟩) (fun p hp _ => hSw p hp) ?_
  rotate_left
  · simp [Reads] at hw0
    go_simp
    try with_reducible rfl
  try go_simp
  refine takeU (i := 13) (v := ?_) rfl (by kernel_rfl) (fun _ _ _ h => h) (Or.inl ⟨by rfl, fun w0 hw0 => ?_⟩) (fun p hp _ => hSw p hp) ?_
  rotate_left
  · simp [Reads] at hw0
    go_simp
    try with_reducible rfl
  try go_simp
  refine takeU (i := 14) (v := ?_) rfl (by kernel_rfl) (fun _ _ _ h => h) (Or.inl ⟨by rfl, fun w0 hw0 => ?_⟩) (fun p hp _ => hSw p hp) ?_
  rotate_left
  · simp [Reads] at hw0
    go_simp
    try with_reducible rfl
  try go_simp
  refine takeU (i := 15) (v := ?_) rfl (by kernel_rfl) (fun _ _ _ h => h) (Or.inl ⟨by rfl, fun w0 hw0 => ?_⟩) (fun p hp _ => hSw p hp) ?_
  rotate_left
  · simp [Reads] at hw0
    go_simp
    try with_reducible rfl
  try go_simp
  refine takeU (i := 16) (v := ?_) rfl (by kernel_rfl) (fun _ _ _ h => h) (Or.inl ⟨by rfl, fun w0 hw0 => ?_⟩) (fun p hp _ => hSw p hp) ?_
  rotate_left
  · simp [Reads] at hw0
    go_simp
    try with_reducible rfl
  try go_simp
  refine takeU (i := 17) (v := ?_) rfl (by kernel_rfl) (fun _ _ _ h => h) (Or.inl ⟨by rfl, fun w0 hw0 => ?_⟩) (fun p hp _ => hSw p hp) ?_
  rotate_left
  · simp [Reads] at hw0
    go_simp
    try with_reducible rfl
  try go_simp
  refine takeU (i := 18) (v := ?_) rfl (by kernel_rfl) (fun _ _ _ h => h) (Or.inl ⟨by rfl, fun w0 hw0 => ?_⟩) (fun p hp _ => hSw p hp) ?_
  rotate_left
  · simp [Reads] at hw0
    go_simp
    try with_reducible rfl
  try go_simp
  refine takeU (i := 19) (v := ?_) rfl (by kernel_rfl) (fun _ _ _ h => h) (Or.inl ⟨by rfl, fun w0 hw0 => ?_⟩) (fun p hp _ => hSw p hp) ?_
  rotate_left
  · simp [Reads] at hw0
    go_simp
    try with_reducible rfl
  try go_simp
  refine takeU (i := 20) (v := ?_) rfl (by kernel_rfl) (fun _ _ _ h => h) (Or.inl ⟨by rfl, fun w0 hw0 => ?_⟩) (fun p hp _ => hSw p hp) ?_
  rotate_left
  · simp [Reads] at hw0
    go_simp
    try with_reducible rfl
  try go_simp
  have hR4 := hR3.keep0 (Keeps.refl [] w3).drew
  have hX4 := hX3.drew
  have hO4 := own_keep hO3 (Keeps.refl [] w3).drew (by simp)
  have hk04 := hk03.drew
  clear hSw hcX hX3 hR3 hO3 hk03
  have HE := Lib.hid (lentries r.lg g p.nx 8 w3.drew hR4.L.at h0 (by omega) (by omega))
  refine oneU (i := 12) rfl (by kernel_rfl) (fun K hK => ?_)
  rw [if_pos (show Region.wanted _ _ = true from rfl)]
  go_wp2_with fail
  refine HE.out.mono ?_
  rintro e w5 ⟨ea, ec, rfl, hS5, hk5⟩
  generalize (g.part p.nx 8).length = el at *
  clear HE hS5
  simp only []
  have hR5 := hR4.keep0 hk5
  have hX5 := hX4.keep hk5 (by simp)
  have hO5 := own_keep hO4 hk5 (by simp)
  have hk05 := hk04.trans hk5.of_nil
  clear hk5 hR4 hX4 hO4 hk04
  have hcX : w5.cell? ⟨xb, 0, none⟩ = some (.int .u64 p.nx) := by rw [hX5.cell]; rfl
  have hSw := rdsF hR5.B hcX
  refine hK _ _ (fun q hq _ _ => hSw q hq) ?_
  clear hK K
  try go_simp
  refine oneU (i := 21) rfl (by kernel_rfl) (fun K hK => ?_)
  refine step_built rfl 49 _ rfl _ _ (built_F i (p.nx - 1) (g.at (p.nx - 1)) ea el ec r.cm r.rd) rfl ?_
  refine hK _ _ (fun q hq _ _ => hSw q hq) ?_
  clear hK K hSw hcX
  try go_simp
  have HS := Lib.hid (rsendsG N b r (fmsg0 i (p.nx - 1) (g.at (p.nx - 1)) (.slice ea el ec) r.cm r.rd) xs w5 rfl (by simp [fmsg0, Value.oneCell']) hR5.B hO5 hR5.bN hR5.size hm)
  obtain ⟨fm, hfm⟩ : ∃ fm, fmsg0 i (p.nx - 1) (g.at (p.nx - 1)) (.slice ea el ec) r.cm r.rd = fm := ⟨_, rfl⟩
  rw [hfm] at HS ⊢
  have HFM := Lib.hid hfm
  clear hfm
  refine oneU (i := 22) rfl (by kernel_rfl) (fun K hK => ?_)
  rw [if_pos (show Region.wanted _ _ = true from rfl)]
  go_wp2_with fail
  refine HS.out.mono ?_
  rintro e w6 ⟨ao, c, rfl, hB6, hO6, hk6⟩
  clear HS
  simp only []
  have hxN : N ≤ xb := hNw
  have hX6 := hX5.keep hk6 (by simp only [List.mem_cons, not_or]; exact ⟨fun e => by have := hR5.bN; omega, fun hx => by have := hON xb hx; omega⟩)
  have hcX : w6.cell? ⟨xb, 0, none⟩ = some (.int .u64 p.nx) := by rw [hX6.cell]; rfl
  refine hK _ _ (fun q hq _ _ => rdsF hB6 hcX q hq) ?_
  clear hK K
  refine doneU (by kernel_rfl) ?_
  go_wp2_with fail
  go_end0
  exact ⟨ao, c, ea, el, ec, rfl, hR5.turnB hk6 (fun x hx => by rcases List.mem_cons.1 hx with e | hx; exact .inl e; exact .inr (hON x hx).1) hB6 rfl rfl, by rw [HFM.out]; exact hO6, hk05.trans hk6⟩
end Go.Proofs.YtdeaelbelcjhcaaDoor
