/- A node of raft that is alone: leads, elected. -/
import Derived.Test.YtdeaelbelcjhcaaDoorRaft3
import Derived.Test.YtdeaelbelcjhcaaDoorLogP

namespace Go.Proofs.YtdeaelbelcjhcaaDoor
open Go.RowKit

theorem Lg.last_snoc (g : Lg) (e : En) : ({ g with es := g.es ++ [e] } : Lg).last = g.last + 1 := by simp [Lg.last]; omega
theorem Lg.at_snoc (g : Lg) (e : En) : ({ g with es := g.es ++ [e] } : Lg).at (g.last + 1) = e.term := by
  have := at_es (g.es ++ [e]) g.base g.tm g.es.length e (by simp)
  have e1 : g.base + 1 + (g.es.length : Int) = g.last + 1 := by unfold Lg.last; omega
  rwa [e1] at this

/-- a node that has just begun to lead -/
def Rf.led (r : Rf) (pb : Nat) (i : Int) : Rf := { r with ro := 2, ld := 0, bt := 0, rd := 1, rs := (none, 0, 0), ps := (some ⟨pb, 0, none⟩, 1, 1), cm := i, fr := i }

theorem Tryd.mkPeers (w : World) : (Instr.makeSlice 60 (.int .i64 1) (.int .i64 1)).run Tryd.prog w = .ok (.slice (some ⟨w.heap.size, 0, none⟩) 1 1) (w.alloc (.cells (peer 0 0 0) 78)) := by kernel_rfl
theorem Tryd.mkBools (w : World) : (Instr.makeSlice 59 (.int .i64 1) (.int .i64 1)).run Tryd.prog w = .ok (.slice (some ⟨w.heap.size, 0, none⟩) 1 1) (w.alloc (.cells #[.bool false] 4)) := by kernel_rfl

set_option maxRecDepth 100000 in
set_option maxHeartbeats 8000000 in
theorem rleads1 (b : Nat) (r : Rf) (g : Lg) (w : World) (hB : Blk w b 63 r.cells) (hL : LogAt w r.lg g) (h0 : r.id = 0) (h1 : r.n = 1) (hf0 : r.fr = 0) (hg0 : 0 ≤ g.base) (hg1 : g.last < 900000) (hgc : r.cm ≤ g.last) :
    Calls Tryd.prog 44 #[.pointer (some ⟨b, 0, none⟩)] w fun e w' => ∃ pb, e = .returned (.tuple #[]) ∧ w.heap.size ≤ pb ∧ Blk w' b 63 (r.led pb (g.last + 1)).cells ∧ Blk w' pb 78 (peer (g.last + 1) (g.last + 1) 1) ∧
      LogAt w' r.lg { g with es := g.es ++ [⟨r.tm, 0, 0, 0, ⟨#[]⟩⟩] } ∧ Keeps [b, r.lg] w w' := by
  have hc := hB.cell
  simp only [Rf.cells, h0, h1] at hc
  have hl := hB.lt
  have hf := hB.free
  have hbl : b ≠ r.lg := by rintro rfl; obtain ⟨_, _, hL0, _, _⟩ := hL; exact absurd rfl (hB.ne hL0 (by decide))
  have mk := Tryd.mkPeers
  go_enter Tryd.func44, Tryd.ntmps44
  go_upto_region 1 with (fail)
  have hB1 := (((((hB.put 6 (.int .i64 2)).put 7 (.int .i64 0)).put 11 (.int .i64 0)).put 12 (.int .u64 1)).put 14 (.slice none 0 0)).eq (cs' := ({ r with ro := 2, ld := 0, bt := 0, rd := 1, rs := (none, 0, 0) } : Rf).cells) (by simp [Rf.cells])
  have hk1 := (((((Keeps.refl [b] w).set (p := ⟨b, 6, none⟩) (by simp) (.int .i64 2)).set (p := ⟨b, 7, none⟩) (by simp) (.int .i64 0)).set (p := ⟨b, 11, none⟩) (by simp) (.int .i64 0)).set (p := ⟨b, 12, none⟩) (by simp) (.int .u64 1)).set (p := ⟨b, 14, none⟩) (by simp) (.slice none 0 0)
  generalize hW : World.setCell _ ⟨b, 14, none⟩ _ = w1 at *
  clear hW hc hl hf
  have hL1 := hL.keepB hk1 hB r.nostr (fun e => hbl e.symm)
  clear hB hL
  have hc := hB1.cell
  simp only [Rf.cells, h0, h1] at hc
  have hl := hB1.lt
  go_wp2_with fail
  refine (llastt r.lg g w1 hL1 hg0 (by omega)).mono ?_
  rintro e w2 ⟨rfl, hk2⟩
  have hB2 := hB1.keep hk2 (by simp)
  have hL2 := hL1.keep0 hk2
  have hk02 := hk1.trans hk2.of_nil
  clear hc hl hB1 hL1 hk1 hk2
  have hc := hB2.cell
  simp only [Rf.cells, h0, h1] at hc
  have hl := hB2.lt
  have hf := hB2.free
  have q1 : IntKind.u64.wrap (g.last + 1) = g.last + 1 := IntWalk.u64_in _ (by unfold Lg.last at *; omega)
  go_upto_region 3 with (fail)
  have hB3 := ((hB2.put 13 (.slice (some ⟨w2.heap.size, 0, none⟩) 1 1)).alloc (.cells (peer 0 0 0) 78)).eq (cs' := ({ r with ro := 2, ld := 0, bt := 0, rd := 1, rs := (none, 0, 0), ps := (some ⟨w2.heap.size, 0, none⟩, 1, 1) } : Rf).cells) (by simp [Rf.cells])
  have hP3 := Blk.fresh_at (w2.setCell ⟨b, 13, none⟩ (.slice (some ⟨w2.heap.size, 0, none⟩) 1 1)) 78 (peer 0 0 0) (n := w2.heap.size) (by simp)
  have hks := ((Keeps.refl [b] w2).set (p := ⟨b, 13, none⟩) (by simp) (.slice (some ⟨w2.heap.size, 0, none⟩) 1 1)).alloc (.cells (peer 0 0 0) 78)
  have hL3 := hL2.keepB hks hB2 (Rf.nostr _) (fun e => hbl e.symm)
  have hk03 := hk02.trans hks
  have hpw : w.heap.size ≤ w2.heap.size := hk02.size
  have hpb : w2.heap.size ≠ b := by omega
  have hpl : w2.heap.size ≠ r.lg := by have := hL2.lt; omega
  generalize hW : World.alloc (World.setCell w2 _ _) _ = w3 at *
  generalize w2.heap.size = pb at *
  clear hW hc hl hf hB2 hL2 hk02 hks mk
  have hc := hB3.cell
  simp only [Rf.cells, h0, h1] at hc
  have hl := hB3.lt
  have hcP := hP3.cell
  have hlP := hP3.lt
  have hfP := hP3.free
  go_wp2_with fail
  refine wp_loop_rounds 2 ?_
  rw [rounds_succ]
  go_wp2_with fail
  rw [rounds_succ]
  go_upto_region 8 with (fail)
  have hB4 := hB3.other (p := ⟨pb, 0, none⟩) (fun e => hpb e.symm) (.int .u64 (g.last + 1))
  have hP4 := (hP3.put 0 (.int .u64 (g.last + 1))).eq (cs' := peer (g.last + 1) 0 0) (by simp)
  have hks := (Keeps.refl [pb] w3).set (p := ⟨pb, 0, none⟩) (by simp) (.int .u64 (g.last + 1))
  have hL4 := hL3.keepB hks hP3 (peer_nostr _ _ _) (fun e => hpl e.symm)
  have hk04 : Keeps [b, r.lg] w (w3.setCell ⟨pb, 0, none⟩ (.int .u64 (g.last + 1))) := (hk03.mono (by intro x hx; simp at hx; simp [hx])).step hks (by intro x hx; simp at hx; right; omega)
  generalize World.setCell w3 _ _ = w4 at *
  clear hc hl hcP hlP hfP hB3 hP3 hks hL3 hk03
  go_wp2_with fail
  refine (radds1 b pb _ g (g.last + 1) 0 0 ⟨0, 0, 0, 0, ⟨#[]⟩⟩ w4 hB4 hP4 hL4 h0 hf0 rfl hg0 (by omega)).mono ?_
  rintro e w5 ⟨rfl, hB5, hP5, hL5, hk5⟩
  have hk05 : Keeps [b, r.lg] w w5 := hk04.step hk5 (by intro x hx; simp at hx ⊢; omega)
  clear hB4 hP4 hL4 hk04 hk5
  have hc := hB5.cell
  simp only [Rf.cells, h0, h1] at hc
  have hl := hB5.lt
  have hcP := hP5.cell
  have hlP := hP5.lt
  have hfP := hP5.free
  go_wp2_with fail
  refine wp_region_still_tail 14 (by kernel_rfl) (by kernel_rfl) ?_
  change wpStill _ _ (World.drew _) _ _ _
  simp only [List.take_succ_cons, List.take_zero, List.drop_succ_cons, List.drop_zero]
  repeat still_step
  refine wpStill_nil ?_
  change wpList _ _ _ _ _ (World.drew _)
  go_upto_region 10 with (fail)
  have hB6 := (hB5.other (p := ⟨pb, 2, none⟩) (fun e => hpb e.symm) (.int .u64 1)).drew
  have hP6 := ((hP5.put 2 (.int .u64 1)).eq (cs' := peer (g.last + 1) (g.last + 1) 1) (by simp)).drew
  have hks := ((Keeps.refl [pb] w5).set (p := ⟨pb, 2, none⟩) (by simp) (.int .u64 1)).drew
  have hL6 := hL5.keepB hks hP5 (peer_nostr _ _ _) (fun e => hpl e.symm)
  have hk06 : Keeps [b, r.lg] w (w5.setCell ⟨pb, 2, none⟩ (.int .u64 1)).drew := hk05.step hks (by intro x hx; simp at hx; right; omega)
  generalize World.drew (World.setCell w5 _ _) = w6 at *
  clear hc hl hcP hlP hfP hB5 hP5 hks hL5 hk05
  have C := rcounts1 b pb _ { g with es := g.es ++ [⟨r.tm, 0, 0, 0, ⟨#[]⟩⟩] } (g.last + 1) 1 w6 hB6 (by rw [Lg.last_snoc]; exact hP6) hL6 h1 rfl hg0 (by rw [Lg.last_snoc]; omega) (by rw [Lg.last_snoc]; simp only []; omega) (by rw [Lg.last_snoc, Lg.at_snoc])
  rw [Lg.last_snoc] at C
  go_wp2_with fail
  refine C.mono ?_
  rintro e w7 ⟨rfl, hB7, hk7⟩
  have hP7 := hP6.keep hk7 (by simpa using hpb)
  have hL7 := hL6.keepB hk7 hB6 (Rf.nostr _) (fun e => hbl e.symm)
  have hk07 : Keeps [b, r.lg] w w7 := hk06.trans (hk7.mono (by intro x hx; simp at hx; simp [hx]))
  clear C hB6 hP6 hL6 hk06 hk7
  go_wp2_with fail
  refine (rfeedsAll1 b _ w7 hB7 h0 h1).mono ?_
  rintro e w' ⟨rfl, rfl⟩
  go_wp2_with fail
  go_end0
  exact ⟨pb, rfl, hpw, hB7, hP7, hL7, hk07⟩
end Go.Proofs.YtdeaelbelcjhcaaDoor
