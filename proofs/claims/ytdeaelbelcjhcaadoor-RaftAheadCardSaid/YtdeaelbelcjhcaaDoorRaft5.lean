/- A node of raft that is alone: elected, stands. -/
import Derived.Test.YtdeaelbelcjhcaaDoorRaft4

namespace Go.Proofs.YtdeaelbelcjhcaaDoor
open Go.RowKit

set_option maxRecDepth 100000 in
set_option maxHeartbeats 8000000 in
theorem relected1 (b vb : Nat) (r : Rf) (g : Lg) (w : World) (hB : Blk w b 63 r.cells) (hV : Blk w vb 4 #[.bool true]) (hvs : r.vs = (some ⟨vb, 0, none⟩, 1, 1)) (hL : LogAt w r.lg g) (h0 : r.id = 0) (h1 : r.n = 1) (hf0 : r.fr = 0) (hg0 : 0 ≤ g.base) (hg1 : g.last < 900000) (hgc : r.cm ≤ g.last) :
    Calls Tryd.prog 25 #[.pointer (some ⟨b, 0, none⟩)] w fun e w' => ∃ pb, e = .returned (.bool true) ∧ w.heap.size ≤ pb ∧ Blk w' b 63 (r.led pb (g.last + 1)).cells ∧ Blk w' pb 78 (peer (g.last + 1) (g.last + 1) 1) ∧
      LogAt w' r.lg { g with es := g.es ++ [⟨r.tm, 0, 0, 0, ⟨#[]⟩⟩] } ∧ Keeps [b, r.lg] w w' := by
  have hc := hB.cell
  simp only [Rf.cells, hvs] at hc
  have hl := hB.lt
  have hcV := hV.cell
  have hlV := hV.lt
  go_enter Tryd.func25, Tryd.ntmps25
  go_wp2_with fail
  refine wp_loop_rounds 2 ?_
  rw [rounds_succ]
  go_wp2_with fail
  rw [rounds_succ]
  go_wp2_with fail
  have M := rmost b r 1 _ hB (by omega) (by omega)
  have hd : decide (r.n < 2 * 1) = true := by rw [h1]; decide
  rw [hd] at M
  refine M.mono ?_
  rintro e w' ⟨rfl, rfl⟩
  clear M hc hl hcV hlV
  go_wp2_with fail
  refine (rleads1 b r g _ hB hL h0 h1 hf0 hg0 hg1 hgc).mono ?_
  rintro e w2 ⟨pb, rfl, hpw, hB2, hP2, hL2, hk2⟩
  go_wp2_with fail
  go_ret
  exact ⟨pb, rfl, hpw, hB2, hP2, hL2, hk2⟩

set_option maxRecDepth 100000 in
set_option maxHeartbeats 8000000 in
theorem rstands1 (b : Nat) (r : Rf) (g : Lg) (d : Int) (w : World) (hB : Blk w b 63 r.cells) (hL : LogAt w r.lg g) (h0 : r.id = 0) (h1 : r.n = 1) (hf0 : r.fr = 0) (hg0 : 0 ≤ g.base) (hg1 : g.last < 900000) (hgc : r.cm ≤ g.last) (ht0 : 0 ≤ r.tm) (ht1 : r.tm < 1000000) :
    Calls Tryd.prog 20 #[.pointer (some ⟨b, 0, none⟩), .int .i64 d] w fun e w' => ∃ pb vb, e = .returned (.tuple #[]) ∧ w.heap.size ≤ pb ∧
      Blk w' b 63 (({ r with tm := r.tm + 1, vt := 0, el := 0, tmo := 10 + d.tmod 20 % 20, vs := (some ⟨vb, 0, none⟩, 1, 1) } : Rf).led pb (g.last + 1)).cells ∧ Blk w' pb 78 (peer (g.last + 1) (g.last + 1) 1) ∧
      LogAt w' r.lg { g with es := g.es ++ [⟨r.tm + 1, 0, 0, 0, ⟨#[]⟩⟩] } ∧ Keeps [b, r.lg] w w' := by
  have hc := hB.cell
  simp only [Rf.cells, h0, h1] at hc
  have hl := hB.lt
  have hf := hB.free
  have mk := Tryd.mkBools
  have q1 : IntKind.u64.wrap (r.tm + 1) = r.tm + 1 := IntWalk.u64_in _ (by omega)
  have hbl : b ≠ r.lg := by rintro rfl; obtain ⟨_, _, hL0, _, _⟩ := hL; exact absurd rfl (hB.ne hL0 (by decide))
  go_enter Tryd.func20, Tryd.ntmps20
  go_wp2_with fail
  refine wp_region_still_tail 14 (by kernel_rfl) (by kernel_rfl) ?_
  change wpStill _ _ (World.drew _) _ _ _
  simp only [List.take_succ_cons, List.take_zero, List.drop_succ_cons, List.drop_zero]
  repeat still_step
  refine wpStill_nil ?_
  change wpList _ _ _ _ _ (World.drew _)
  go_upto_region 1 with (fail)
  have hB1 := (((hB.put 2 (.int .u64 (r.tm + 1))).put 3 (.int .i64 0)).eq (cs' := ({ r with tm := r.tm + 1, vt := 0 } : Rf).cells) (by simp [Rf.cells])).drew
  have hk1 := (((Keeps.refl [b] w).set (p := ⟨b, 2, none⟩) (by simp) (.int .u64 (r.tm + 1))).set (p := ⟨b, 3, none⟩) (by simp) (.int .i64 0)).drew
  generalize World.drew (World.setCell _ _ _) = w1 at *
  have hL1 := hL.keepB hk1 hB r.nostr (fun e => hbl e.symm)
  clear hB hL hc hl hf
  go_wp2_with fail
  refine (rfollows b _ (-1) w1 hB1).mono ?_
  rintro e w2 ⟨rfl, hB2, hk2⟩
  have hL2 := hL1.keepB hk2 hB1 (Rf.nostr _) (fun e => hbl e.symm)
  have hk02 := hk1.trans hk2
  clear hB1 hL1 hk1 hk2
  have hc := hB2.cell
  simp only [Rf.cells] at hc
  have hl := hB2.lt
  have hf := hB2.free
  go_upto_region 3 with (fail)
  have hB3 := ((hB2.put 6 (.int .i64 1)).put 8 (.int .i64 0)).eq (cs' := ({ r with tm := r.tm + 1, vt := 0, ro := 1, ld := -1, rs := (none, 0, 0), vs := (none, 0, 0), el := 0 } : Rf).cells) (by simp [Rf.cells])
  have hks := ((Keeps.refl [b] w2).set (p := ⟨b, 6, none⟩) (by simp) (.int .i64 1)).set (p := ⟨b, 8, none⟩) (by simp) (.int .i64 0)
  generalize World.setCell (World.setCell w2 _ _) _ _ = w3 at *
  have hL3 := hL2.keepB hks hB2 (Rf.nostr _) (fun e => hbl e.symm)
  have hk03 := hk02.trans hks
  clear hc hl hf hB2 hL2 hk02 hks
  go_wp2_with fail
  refine (rdraws b _ d w3 hB3).mono ?_
  rintro e w4 ⟨rfl, hB4, hk4⟩
  have hL4 := hL3.keepB hk4 hB3 (Rf.nostr _) (fun e => hbl e.symm)
  have hk04 := hk03.trans hk4
  clear hB3 hL3 hk03 hk4
  have hc := hB4.cell
  simp only [Rf.cells, h0, h1] at hc
  have hl := hB4.lt
  have hf := hB4.free
  go_upto_region 5 with (fail)
  have hB5 := ((hB4.put 10 (.slice (some ⟨w4.heap.size, 0, none⟩) 1 1)).alloc (.cells #[.bool false] 4)).eq (cs' := ({ r with tm := r.tm + 1, vt := 0, ro := 1, ld := -1, rs := (none, 0, 0), vs := (some ⟨w4.heap.size, 0, none⟩, 1, 1), el := 0, tmo := 10 + d.tmod 20 % 20 } : Rf).cells) (by simp [Rf.cells])
  have hV5 := Blk.fresh_at (w4.setCell ⟨b, 10, none⟩ (.slice (some ⟨w4.heap.size, 0, none⟩) 1 1)) 4 #[.bool false] (n := w4.heap.size) (by simp)
  have hks := ((Keeps.refl [b] w4).set (p := ⟨b, 10, none⟩) (by simp) (.slice (some ⟨w4.heap.size, 0, none⟩) 1 1)).alloc (.cells #[.bool false] 4)
  have hL5 := hL4.keepB hks hB4 (Rf.nostr _) (fun e => hbl e.symm)
  have hk05 := hk04.trans hks
  have hvw : w.heap.size ≤ w4.heap.size := hk04.size
  have hvb : w4.heap.size ≠ b := by omega
  have hvl : w4.heap.size ≠ r.lg := by have := hL4.lt; omega
  generalize World.alloc (World.setCell w4 _ _) _ = w5 at *
  generalize w4.heap.size = vb at *
  clear hc hl hf hB4 hL4 hk04 hks mk
  have hc := hB5.cell
  simp only [Rf.cells, h0, h1] at hc
  have hl := hB5.lt
  have hcV := hV5.cell
  have hlV := hV5.lt
  have hfV := hV5.free
  refine wp_region_still_tail 9 (by kernel_rfl) (by kernel_rfl) ?_
  change wpStill _ _ (World.drew _) _ _ _
  simp only [List.take_succ_cons, List.take_zero, List.drop_succ_cons, List.drop_zero]
  repeat still_step
  refine wpStill_nil ?_
  change wpList _ _ _ _ _ (World.drew _)
  go_upto_region 6 with (fail)
  have hB6 := (hB5.other (p := ⟨vb, 0, none⟩) (fun e => hvb e.symm) (.bool true)).drew
  have hV6 := ((hV5.put 0 (.bool true)).eq (cs' := #[.bool true]) (by simp)).drew
  have hks := ((Keeps.refl [vb] w5).set (p := ⟨vb, 0, none⟩) (by simp) (.bool true)).drew
  have hL6 := hL5.keepB hks hV5 (by intro v hv s e; subst e; simp at hv) (fun e => hvl e.symm)
  have hk06 : Keeps [b] w (w5.setCell ⟨vb, 0, none⟩ (.bool true)).drew := hk05.step hks (by intro x hx; simp at hx; right; omega)
  generalize World.drew (World.setCell w5 _ _) = w6 at *
  clear hc hl hcV hlV hfV hB5 hV5 hks hL5 hk05
  go_wp2_with fail
  refine (relected1 b vb _ g w6 hB6 hV6 rfl hL6 h0 h1 hf0 hg0 hg1 hgc).mono ?_
  rintro e w7 ⟨pb, rfl, hpw, hB7, hP7, hL7, hk7⟩
  go_wp2_with fail
  (try simp only [Exit.inBlock, Exit.then])
  refine bodyPost_ret (results_none rfl _ _ _) rfl ?_
  exact ⟨pb, vb, rfl, by have := hk06.size; omega, hB7, hP7, hL7, (hk06.mono (by intro x hx; simp at hx; simp [hx])).trans hk7⟩
end Go.Proofs.YtdeaelbelcjhcaaDoor
