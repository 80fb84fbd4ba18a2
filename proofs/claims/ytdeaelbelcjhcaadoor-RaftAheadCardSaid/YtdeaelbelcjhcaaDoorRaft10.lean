/- A node of raft that is alone: Read. -/
import Derived.Test.YtdeaelbelcjhcaaDoorRaft9

namespace Go.Proofs.YtdeaelbelcjhcaaDoor
open Go.RowKit

theorem infoRR : ∃ i z, Tryd.prog.info? 81 = some i ∧ i.zero = some z ∧ i.size = 3 ∧ i.bytes = 24 ∧ z.cells.size = 3 := by
  have h : (Tryd.prog.info? 81).map (fun i => (i.size, i.bytes, (i.zero.map fun z => z.cells.size))) = some (3, 24, some 3) := by kernel_rfl
  obtain ⟨i, hi, hx⟩ := Option.map_eq_some_iff.1 h
  simp only [Prod.mk.injEq] at hx
  obtain ⟨z, hz, hc⟩ := Option.map_eq_some_iff.1 hx.2.2
  exact ⟨i, z, hi, hz, hx.1, hx.2.1, hc⟩

theorem read_fin {w W w2 : World} {b : Nat} {r : Rf} {ao ao' : Option Addr} {c c' : Nat} {v0 v1 v2 : Value} (hB2 : Blk w2 b 63 r.cells)
    (hS' : Sl w2 3 ao' 1 c' [v0, v1, v2]) (hb' : ∀ ad, ao' = some ad → W.heap.size ≤ ad.block ∧ ad.block < w2.heap.size) (hbl : b < W.heap.size) (hka : Keeps [b] w W) (hk' : Keeps [] W w2) (_ : r.rs = (ao, 0, c)) :
    ∃ a2 c2, Blk (w2.setCell ⟨b, 14, none⟩ (.slice ao' 1 c')) b 63 ({ r with rs := (a2, 1, c2) } : Rf).cells ∧ Sl (w2.setCell ⟨b, 14, none⟩ (.slice ao' 1 c')) 3 a2 1 c2 [v0, v1, v2] ∧ Keeps [b] w (w2.setCell ⟨b, 14, none⟩ (.slice ao' 1 c')) :=
  ⟨ao', c', (hB2.put 14 _).eq (by simp [Rf.cells]), hS'.keep (L := [b]) ((Keeps.refl [b] w2).set (by simp) _) (fun ad e _ => by have h2 := Nat.lt_of_lt_of_le hbl (hb' ad e).1; simp; omega), (hka.trans hk'.of_nil).set (by simp) _⟩

set_option maxRecDepth 100000 in
set_option maxHeartbeats 8000000 in
theorem rread1 (b pb : Nat) (r : Rf) (g : Lg) (nx mt ak tag : Int) (ao : Option Addr) (c : Nat) (w : World) (hB : Blk w b 63 r.cells) (hP : Blk w pb 78 (peer nx mt ak)) (hL : LogAt w r.lg g) (h0 : r.id = 0) (h1 : r.n = 1) (hro : r.ro = 2) (hps : r.ps = (some ⟨pb, 0, none⟩, 1, 1)) (hrs : r.rs = (ao, 0, c)) (hsp : ∀ ad, ao = some ad → ad.spot = none) (hdn : r.dn = (none, 0, 0)) (hg0 : 0 ≤ g.base) (hg1 : g.last < 900000) (hgb : g.base < g.last) (hgc : r.cm = g.last) (hat : g.at g.last = r.tm) (hrd0 : 0 ≤ r.rd) (hrd1 : r.rd < 1000000) :
    Calls Tryd.prog 10 #[.pointer (some ⟨b, 0, none⟩), .int .u64 tag] w fun e w' => ∃ a1 c1 a2 c2, e = .returned (.tuple #[.agg ({ r with dn := (a1, 1, c1) } : Rf).out, .nilIface]) ∧ Sl w' 2 a1 1 c1 [.int .u64 tag, .int .u64 g.last] ∧ (∀ ad, a2 = some ad → ad.spot = none) ∧
      Blk w' b 63 ({ r with rd := r.rd + 1, rs := (a2, 0, c2) } : Rf).bare.cells ∧ Blk w' pb 78 (peer nx mt (r.rd + 1)) ∧ LogAt w' r.lg g ∧ Keeps [b, pb] w w' := by
  have hbl : b ≠ r.lg := by rintro rfl; obtain ⟨_, _, hL0, _, _⟩ := hL; exact absurd rfl (hB.ne hL0 (by decide))
  have hpl : pb ≠ r.lg := by rintro rfl; obtain ⟨_, _, hL0, _, _⟩ := hL; exact absurd rfl (hP.ne hL0 (by decide))
  have hbp : b ≠ pb := hB.ne hP (by decide)
  have hX1 := Blk.fresh w 36 #[.slice none 0 0, .int .u64 0, .int .i64 0, .int .u64 0, .slice none 0 0, .slice none 0 0]
  have hk1 := (Keeps.refl [b, pb] w).alloc (.cells #[.slice none 0 0, .int .u64 0, .int .i64 0, .int .u64 0, .slice none 0 0, .slice none 0 0] 36)
  have hB1 := hB.alloc (.cells #[.slice none 0 0, .int .u64 0, .int .i64 0, .int .u64 0, .slice none 0 0, .slice none 0 0] 36)
  have hP1 := hP.alloc (.cells #[.slice none 0 0, .int .u64 0, .int .i64 0, .int .u64 0, .slice none 0 0, .slice none 0 0] 36)
  have hL1 := hL.keep0 ((Keeps.refl [] w).alloc (.cells #[.slice none 0 0, .int .u64 0, .int .i64 0, .int .u64 0, .slice none 0 0, .slice none 0 0] 36))
  have hxb : w.heap.size ≠ b := by have := hB.lt; omega
  have hxp : w.heap.size ≠ pb := by have := hP.lt; omega
  have hxl : w.heap.size ≠ r.lg := by have := hL.lt; omega
  have q1 : IntKind.u64.wrap (r.rd + 1) = r.rd + 1 := IntWalk.u64_in _ (by omega)
  go_enter Tryd.func10, Tryd.ntmps10
  go_upto_region 1 with (fail)
  generalize World.alloc w _ = w1 at *
  generalize hxe : w.heap.size = xb at *
  clear hB hP hL
  go_wp2_with fail
  refine (rleading b r w1 hB1 hro).mono ?_
  rintro e w' ⟨rfl, rfl⟩
  generalize hw1 : w' = w1 at *
  clear hw1
  have hc := hB1.cell
  simp only [Rf.cells, hgc] at hc
  have hl := hB1.lt
  have T := fun m => lterm_q r.lg g g.last (w1.drewN m) (hL1.keep0 ((Keeps.refl [] w1).drewN m)) hg0 (by omega) hgb (Int.le_refl _)
  rw [hat] at T
  have HT := Lib.hid T
  clear T
  go_upto_region 4 with (fail)
  go_quiet ((go_at_call 31; exact Calls.quiet_of (HT.out _)))
  have hB2 := hB1.drewN nq
  have hX2 := hX1.drewN nq
  have hP2 := hP1.drewN nq
  have hL2 := hL1.keep0 ((Keeps.refl [] w1).drewN nq)
  have hk2 := hk1.drewN nq
  generalize World.drewN w1 nq = w2 at *
  clear hc hl hB1 hX1 hP1 hL1 hk1 HT
  have hc := hB2.cell
  simp only [Rf.cells, hps, h0] at hc
  have hl := hB2.lt
  have hf := hB2.free
  go_upto_region 8 with (fail)
  have hB3 := (hB2.put 12 (.int .u64 (r.rd + 1))).eq (cs' := ({ r with rd := r.rd + 1 } : Rf).cells) (by simp [Rf.cells])
  have hks := (Keeps.refl [b] w2).set (p := ⟨b, 12, none⟩) (by simp) (.int .u64 (r.rd + 1))
  have hX3 := hX2.keep hks (by simpa using hxb)
  have hP3 := hP2.keep hks (by simpa using fun e => hbp e.symm)
  have hL3 := hL2.keepB hks hB2 r.nostr (fun e => hbl e.symm)
  have hk3 := hk2.trans (hks.mono (L' := [b, pb]) (by intro x hx; simp at hx; simp [hx]))
  generalize World.setCell w2 _ _ = w3 at *
  clear hc hl hf hB2 hX2 hP2 hL2 hk2 hks
  have hc := hB3.cell
  simp only [Rf.cells, hps, h0] at hc
  have hl := hB3.lt
  have hcP := hP3.cell
  have hlP := hP3.lt
  have hfP := hP3.free
  refine wp_region_still_tail 14 (by kernel_rfl) (by kernel_rfl) ?_
  change wpStill _ _ (World.drew _) _ _ _
  simp only [List.take_succ_cons, List.take_zero, List.drop_succ_cons, List.drop_zero]
  repeat still_step
  refine wpStill_nil ?_
  change wpList _ _ _ _ _ (World.drew _)
  go_upto_region 9 with (fail)
  have hB4 := (hB3.other (p := ⟨pb, 2, none⟩) hbp (.int .u64 (r.rd + 1))).drew
  have hP4 := ((hP3.put 2 (.int .u64 (r.rd + 1))).eq (cs' := peer nx mt (r.rd + 1)) (by simp)).drew
  have hks := ((Keeps.refl [pb] w3).set (p := ⟨pb, 2, none⟩) (by simp) (.int .u64 (r.rd + 1))).drew
  have hX4 := hX3.keep hks (by simpa using hxp)
  have hL4 := hL3.keepB hks hP3 (peer_nostr _ _ _) (fun e => hpl e.symm)
  have hk4 := hk3.trans (hks.mono (L' := [b, pb]) (by intro x hx; simp at hx; simp [hx]))
  generalize World.drew (World.setCell w3 _ _) = w4 at *
  clear hc hl hcP hlP hfP hB3 hX3 hP3 hL3 hk3 hks
  go_cut [] (fun wx => ∃ a2 c2, Blk wx b 63 ({ ({ r with rd := r.rd + 1 } : Rf) with rs := (a2, 1, c2) } : Rf).cells ∧ Sl wx 3 a2 1 c2 [.int .u64 tag, .int .u64 g.last, .int .u64 (r.rd + 1)] ∧ Keeps [b] w4 wx)
  case first =>
    obtain ⟨i, z, hi, hz, hsz, hby, hzc⟩ := infoRR
    have HG := Lib.hid hgc
    clear hgc hgb hat
    have hc := hB4.cell
    simp only [Rf.cells, hrs] at hc
    have hl := hB4.lt
    have hBa := hB4.drew.alloc (.cells #[.int .u64 tag, .int .u64 r.cm, .int .u64 (r.rd + 1)] 81)
    have hka := (Keeps.refl [b] w4).drew.alloc (.cells #[.int .u64 tag, .int .u64 r.cm, .int .u64 (r.rd + 1)] 81)
    have hTa : Sl (w4.drew.alloc (.cells #[.int .u64 tag, .int .u64 r.cm, .int .u64 (r.rd + 1)] 81)) 3 (some ⟨w4.heap.size, 0, none⟩) 1 1 [.int .u64 tag, .int .u64 r.cm, .int .u64 (r.rd + 1)] := Sl.of_blk (Blk.fresh_at w4.drew 81 #[.int .u64 tag, .int .u64 r.cm, .int .u64 (r.rd + 1)] rfl) rfl (by decide) (by intro u hu; simp at hu; rcases hu with rfl | rfl | rfl <;> rfl)
    have hSm : Sl (w4.drew.alloc (.cells #[.int .u64 tag, .int .u64 r.cm, .int .u64 (r.rd + 1)] 81)) 3 ao 0 0 [] := ⟨rfl, Nat.le_refl _, Nat.zero_le _, fun _ => rfl, fun _ => hsp, fun _ _ j u hj => by simp at hj, fun u hu => by simp at hu⟩
    have hlb := hBa.lt
    have hSw : w4.drew.cell? ⟨b, 14, none⟩ = some (.slice ao 0 c) ∧ w4.drew.cell? ⟨b, 5, none⟩ = some (.int .u64 r.cm) ∧ w4.drew.cell? ⟨b, 12, none⟩ = some (.int .u64 (r.rd + 1)) := ⟨by go_simp, by go_simp, by go_simp⟩
    refine startT (n0 := 18) (S := fun w0 => w0.cell? ⟨b, 14, none⟩ = some (.slice ao 0 c) ∧ w0.cell? ⟨b, 5, none⟩ = some (.int .u64 r.cm) ∧ w0.cell? ⟨b, 12, none⟩ = some (.int .u64 (r.rd + 1))) (by kernel_rfl) ?_
    refine takeT (i := 0) (v := ?_) rfl (by kernel_rfl) (fun _ _ _ h => h) (Or.inl ⟨by rfl, fun w0 hw0 => ?_⟩) hSw ?_
    rotate_left
    · go_simp
      try with_reducible rfl
    try go_simp
    refine takeT (i := 1) (v := ?_) rfl (by kernel_rfl) (fun _ _ _ h => h) (Or.inl ⟨by rfl, fun w0 hw0 => ?_⟩) hSw ?_
    rotate_left
    · go_simp
      try with_reducible rfl
    try go_simp
    refine takeT (i := 2) (v := ?_) rfl (by kernel_rfl) (fun _ _ _ h => h) (Or.inl ⟨by rfl, fun w0 hw0 => ?_⟩) hSw ?_
    rotate_left
    · go_simp
      try with_reducible rfl
    try go_simp
    refine takeT (i := 3) (v := ?_) rfl (by kernel_rfl) (fun _ _ _ h => h) (Or.inl ⟨by rfl, fun w0 hw0 => ?_⟩) hSw ?_
    rotate_left
    · go_simp
      try with_reducible rfl
    try go_simp
    refine takeT (i := 4) (v := ?_) rfl (by kernel_rfl) (fun _ _ _ h => h) (Or.inl ⟨by rfl, fun w0 hw0 => ?_⟩) hSw ?_
    rotate_left
    · go_simp
      try with_reducible rfl
    try go_simp
    refine takeT (i := 6) (v := ?_) rfl (by kernel_rfl) (fun _ _ _ h => h) (Or.inl ⟨by rfl, fun w0 hw0 => ?_⟩) hSw ?_
    rotate_left
    · go_simp
      try with_reducible rfl
    try go_simp
    refine takeT (i := 7) (v := ?_) rfl (by kernel_rfl) (fun _ _ _ h => h) (Or.inl ⟨by rfl, fun w0 hw0 => ?_⟩) hSw ?_
    rotate_left
    · go_simp
      try with_reducible rfl
    try go_simp
    refine takeT (i := 8) (v := ?_) rfl (by kernel_rfl) (fun _ _ _ h => h) (Or.inl ⟨by rfl, fun w0 hw0 => ?_⟩) hSw ?_
    rotate_left
    · go_simp
      try with_reducible rfl
    try go_simp
    refine takeT (i := 9) (v := ?_) rfl (by kernel_rfl) (fun _ _ _ h => h) (Or.inl ⟨by rfl, fun w0 hw0 => ?_⟩) hSw ?_
    rotate_left
    · go_simp
      try with_reducible rfl
    try go_simp
    refine takeT (i := 10) (v := ?_) rfl (by kernel_rfl) (fun _ _ _ h => h) (Or.inl ⟨by rfl, fun w0 hw0 => ?_⟩) hSw ?_
    rotate_left
    · go_simp
      try with_reducible rfl
    try go_simp
    refine takeT (i := 11) (v := ?_) rfl (by kernel_rfl) (fun _ _ _ h => h) (Or.inl ⟨by rfl, fun w0 hw0 => ?_⟩) hSw ?_
    rotate_left
    · go_simp
      try with_reducible rfl
    try go_simp
    refine takeT (i := 12) (v := ?_) rfl (by kernel_rfl) (fun _ _ _ h => h) (Or.inl ⟨by rfl, fun w0 hw0 => ?_⟩) hSw ?_
    rotate_left
    · go_simp
      try with_reducible rfl
    try go_simp
    refine takeT (i := 13) (v := ?_) rfl (by kernel_rfl) (fun _ _ _ h => h) (Or.inl ⟨by rfl, fun w0 hw0 => ?_⟩) hSw ?_
    rotate_left
    · go_simp
      try with_reducible rfl
    try go_simp
    refine takeT (i := 14) (v := ?_) rfl (by kernel_rfl) (fun _ _ _ h => h) (Or.inl ⟨by rfl, fun w0 hw0 => ?_⟩) hSw ?_
    rotate_left
    · go_simp
      try with_reducible rfl
    try go_simp
    refine takeT (i := 15) (v := ?_) rfl (by kernel_rfl) (fun _ _ _ h => h) (Or.inl ⟨by rfl, fun w0 hw0 => ?_⟩) hSw ?_
    rotate_left
    · go_simp
      try with_reducible rfl
    try go_simp
    refine twoT (i := 5) (j := 16) rfl rfl (by kernel_rfl) (fun K hK => ?_) (fun K hK => ?_)
    · skip
      go_simp
      go_at_call 32
      refine (rclip0 ao c _).mono ?_
      rintro e w' ⟨rfl, rfl⟩
      refine hK _ _ (fun _ => ?_) ?_
      · exact ⟨by go_simp, by go_simp, by go_simp⟩
      clear hK K
      try go_simp
      refine oneT (i := 16) rfl (by kernel_rfl) (fun K hK => ?_)
      go_simp
      refine hK _ _ (fun _ => ?_) ?_
      · exact ⟨by go_simp, by go_simp, by go_simp⟩
      clear hK K
      try go_simp
      refine oneT (i := 17) rfl (by kernel_rfl) (fun K hK => ?_)
      refine step_append_sl rfl _ _ 61 rfl 81 i z 3 24 Tryd.underlying61 hi hz hsz hby hzc (by decide) _ _ _ _ rfl hSm _ 1 1 _ rfl hTa (by omega) (by decide) (by omega) ?_
      intro ao' c' w3 hS' hb' hk'
      have hB3 := hBa.keep hk' (by simp)
      have hc3 := hB3.cell
      simp only [Rf.cells, hrs] at hc3
      have hf3 := hB3.free
      have hl3 := hB3.lt
      refine hK _ _ (fun _ => ?_) ?_
      · exact ⟨by go_simp, by go_simp, by go_simp⟩
      clear hK K
      try go_simp
      refine oneT (i := 18) rfl (by kernel_rfl) (fun K hK => ?_)
      go_simp
      refine hK _ _ (fun h => absurd h (by decide)) ?_
      clear hK K
      try go_simp
      refine oneT (i := 19) rfl (by kernel_rfl) (fun K hK => ?_)
      go_simp
      refine hK _ _ (fun h => absurd h (by decide)) ?_
      clear hK K
      try go_simp
      refine oneT (i := 20) rfl (by kernel_rfl) (fun K hK => ?_)
      go_simp
      refine hK _ _ (fun h => absurd h (by decide)) ?_
      clear hK K
      refine doneT (by kernel_rfl) ?_
      go_wp2_with fail
      go_meet
      exact read_fin hB3 (by have e := HG.out; rw [← e]; exact hS') hb' hlb hka hk' hrs
    · skip
      go_simp
      refine hK _ _ (fun _ => ?_) ?_
      · exact ⟨by go_simp, by go_simp, by go_simp⟩
      clear hK K
      try go_simp
      refine oneT (i := 5) rfl (by kernel_rfl) (fun K hK => ?_)
      go_simp
      go_at_call 32
      refine (rclip0 ao c _).mono ?_
      rintro e w' ⟨rfl, rfl⟩
      refine hK _ _ (fun _ => ?_) ?_
      · exact ⟨by go_simp, by go_simp, by go_simp⟩
      clear hK K
      try go_simp
      refine oneT (i := 17) rfl (by kernel_rfl) (fun K hK => ?_)
      refine step_append_sl rfl _ _ 61 rfl 81 i z 3 24 Tryd.underlying61 hi hz hsz hby hzc (by decide) _ _ _ _ rfl hSm _ 1 1 _ rfl hTa (by omega) (by decide) (by omega) ?_
      intro ao' c' w3 hS' hb' hk'
      have hB3 := hBa.keep hk' (by simp)
      have hc3 := hB3.cell
      simp only [Rf.cells, hrs] at hc3
      have hf3 := hB3.free
      have hl3 := hB3.lt
      refine hK _ _ (fun _ => ?_) ?_
      · exact ⟨by go_simp, by go_simp, by go_simp⟩
      clear hK K
      try go_simp
      refine oneT (i := 18) rfl (by kernel_rfl) (fun K hK => ?_)
      go_simp
      refine hK _ _ (fun h => absurd h (by decide)) ?_
      clear hK K
      try go_simp
      refine oneT (i := 19) rfl (by kernel_rfl) (fun K hK => ?_)
      go_simp
      refine hK _ _ (fun h => absurd h (by decide)) ?_
      clear hK K
      try go_simp
      refine oneT (i := 20) rfl (by kernel_rfl) (fun K hK => ?_)
      go_simp
      refine hK _ _ (fun h => absurd h (by decide)) ?_
      clear hK K
      refine doneT (by kernel_rfl) ?_
      go_wp2_with fail
      go_meet
      exact read_fin hB3 (by have e := HG.out; rw [← e]; exact hS') hb' hlb hka hk' hrs
  case rest =>
    obtain ⟨a2, c2, hB5, hS5, hk5⟩ := hcut
    have hX5 := hX4.keep hk5 (by simpa using hxb)
    have hP5 := hP4.keep hk5 (by simpa using fun e => hbp e.symm)
    have hL5 := hL4.keepB hk5 hB4 (Rf.nostr _) (fun e => hbl e.symm)
    have hk6 := hk4.trans (hk5.mono (L' := [b, pb]) (by intro x hx; simp at hx; simp [hx]))
    clear hB4 hX4 hP4 hL4 hk4 hk5
    obtain ⟨rb, ro, rfl⟩ := hS5.at (by have := hS5.cap; omega)
    go_wp2_with fail
    refine (rfeedsAll1 b _ wc hB5 h0 h1).mono ?_
    rintro e w' ⟨rfl, rfl⟩
    go_wp2_with fail
    have hB5l := hB5.lt
    have hX5l := hX5.lt
    refine (rreleased1 b pb rb ro c2 _ nx mt (r.rd + 1) tag g.last w' hB5 hP5 h1 hps rfl hdn hS5).mono ?_
    rintro e w6 ⟨a1, c1, a3, c3, rfl, hB6, hS6, hsp6, hap6, hk7⟩
    have hX6 := hX5.keep hk7 (by simpa using hxb)
    have hP6 := hP5.keep hk7 (by simpa using fun e => hbp e.symm)
    have hL6 := hL5.keepB hk7 hB5 (Rf.nostr _) (fun e => hbl e.symm)
    have hk8 := hk6.trans (hk7.mono (L' := [b, pb]) (by intro x hx; simp at hx; simp [hx]))
    clear hB5 hX5 hP5 hL5 hk6 hk7 hS5
    go_wp2_with fail
    refine (rready b _ w6 hB6).mono ?_
    rintro e w7 ⟨rfl, hB7, hk9⟩
    have hX7 := hX6.keep hk9 (by simpa using hxb)
    have hP7 := hP6.keep hk9 (by simpa using fun e => hbp e.symm)
    have hL7 := hL6.keepB hk9 hB6 (Rf.nostr _) (fun e => hbl e.symm)
    have hk10 := hk8.trans (hk9.mono (L' := [b, pb]) (by intro x hx; simp at hx; simp [hx]))
    have hS7 := hS6.keep hk9 (fun ad e _ => by have := hap6 ad e; simp; omega)
    clear hB6 hX6 hP6 hL6 hk8 hk9 hS6
    obtain ⟨m1, m2, m3, y1, y2, y3, n1, n2, n3, p1, p2, p3, ho⟩ : ∃ m1 m2 m3 y1 y2 y3 n1 n2 n3 p1 p2 p3, Rf.out ({ ({ ({ r with rd := r.rd + 1 } : Rf) with rs := (some ⟨rb, ro, none⟩, 1, c2) } : Rf) with dn := (a1, 1, c1), rs := (a3, 0, c3) } : Rf) = #[.slice m1 m2 m3, .int .u64 y1, .int .i64 y2, .int .u64 y3, .slice n1 n2 n3, .slice p1 p2 p3] := ⟨_, _, _, _, _, _, _, _, _, _, _, _, rfl⟩
    have ho' : Rf.out ({ r with dn := (a1, 1, c1) } : Rf) = #[.slice m1 m2 m3, .int .u64 y1, .int .i64 y2, .int .u64 y3, .slice n1 n2 n3, .slice p1 p2 p3] := ho
    rw [ho]
    clear ho
    have HO := Lib.hid ho'
    clear ho'
    have hcX := hX7.cell
    have hlX := hX7.lt
    have hfX := hX7.free
    have HX := Lib.hid (put6 hX7 (.slice m1 m2 m3) (.int .u64 y1) (.int .i64 y2) (.int .u64 y3) (.slice n1 n2 n3) (.slice p1 p2 p3))
    go_wp2_with fail
    have hX8 := HX.out
    generalize World.setCell (World.setCell _ _ _) ⟨xb, 5, none⟩ _ = w8 at *
    exact bodyPost_ret (results_ct rfl rfl hX8.1 Tryd.underlying36 rfl Tryd.sizeRE) rfl
      ⟨a1, c1, a3, c3, by rw [HO.out]; rfl, hS7.keep hX8.2 (fun ad e _ => by have := hap6 ad e; simp; omega), hsp6, hB7.keep hX8.2 (by simpa using fun e => hxb e.symm), hP7.keep hX8.2 (by simpa using fun e => hxp e.symm), hL7.keepB hX8.2 hX7 (by intro v hv s e; subst e; simp at hv) (fun e => hxl e.symm), hk10.step hX8.2 (by intro x hx; simp at hx; right; omega)⟩
end Go.Proofs.YtdeaelbelcjhcaaDoor
