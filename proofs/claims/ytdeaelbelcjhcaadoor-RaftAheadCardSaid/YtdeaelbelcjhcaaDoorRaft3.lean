/- A node of raft that is alone: adds, counts. -/
import Derived.Test.YtdeaelbelcjhcaaDoorRaft2
import Derived.Test.YtdeaelbelcjhcaaDoorLog5
import Derived.StillTailTactics
import Derived.Deep.RegionLaw

namespace Go.Proofs.YtdeaelbelcjhcaaDoor
open Go.RowKit

/-- a log stays where a block without texts turns -/
theorem LogAt.keepB {w w' : World} {lg b : Nat} {g : Lg} {t : TypeId} {cs : Array Value} (h : LogAt w lg g) (hk : Keeps [b] w w') (hB : Blk w b t cs) (hs : ∀ v ∈ cs.toList, ∀ s, v ≠ Value.string s) (hne : lg ≠ b) : LogAt w' lg g := by
  obtain ⟨ao, c, hL, hS, hap⟩ := h
  refine ⟨ao, c, hL.keep hk (by simpa using hne), hS.keep hk ?_, hap⟩
  intro ad ha hx
  simp only [List.mem_singleton]
  intro e
  cases hes : g.es with
  | nil => rw [hes] at hx; exact hx rfl
  | cons en l =>
    rw [hes] at hS
    have h4 := hS.cell ad ha 4 (.string en.sql) rfl
    rw [e, hB.cell] at h4
    have hm : Value.string en.sql ∈ cs.toList := by
      have := List.mem_of_getElem? (l := cs.toList) (i := ad.off + 4) (a := Value.string en.sql) (by rw [Array.getElem?_toList]; exact h4)
      exact this
    exact hs _ hm _ rfl

theorem Rf.nostr (r : Rf) : ∀ v ∈ r.cells.toList, ∀ s, v ≠ Value.string s := by
  intro v hv s e
  subst e
  simp [Rf.cells] at hv

abbrev peer (nx mt ak : Int) : Array Value := #[.int .u64 nx, .int .u64 mt, .int .u64 ak, .int .i64 0]
theorem peer_nostr (nx mt ak : Int) : ∀ v ∈ (peer nx mt ak).toList, ∀ s, v ≠ Value.string s := by
  intro v hv s e
  subst e
  simp at hv

set_option maxRecDepth 100000 in
set_option maxHeartbeats 4000000 in
theorem radds1 (b pb : Nat) (r : Rf) (g : Lg) (nx mt ak : Int) (en : En) (w : World) (hB : Blk w b 63 r.cells) (hP : Blk w pb 78 (peer nx mt ak)) (hL : LogAt w r.lg g) (h0 : r.id = 0) (hf0 : r.fr = 0) (hps : r.ps = (some ⟨pb, 0, none⟩, 1, 1)) (hg0 : 0 ≤ g.base) (hg1 : g.last < 1000000) :
    Calls Tryd.prog 37 #[.pointer (some ⟨b, 0, none⟩), .agg #[.int .u64 (en).term, .int .i64 (en).kind, .int .u64 (en).client, .int .u64 (en).seq, .string (en).sql]] w fun e w' => e = .returned (.int .u64 (g.last + 1)) ∧ Blk w' b 63 ({ r with fr := g.last + 1 } : Rf).cells ∧ Blk w' pb 78 (peer nx (g.last + 1) ak) ∧
      LogAt w' r.lg { g with es := g.es ++ [{ en with term := r.tm }] } ∧ Keeps [b, pb, r.lg] w w' := by
  have hc := hB.cell
  simp only [Rf.cells, h0, hps] at hc
  have hl := hB.lt
  have hX := Blk.fresh w 69 #[.int .u64 ({ en with term := r.tm }).term, .int .i64 ({ en with term := r.tm }).kind, .int .u64 ({ en with term := r.tm }).client, .int .u64 ({ en with term := r.tm }).seq, .string ({ en with term := r.tm }).sql]
  have hB1 := hB.alloc (.cells #[.int .u64 ({ en with term := r.tm }).term, .int .i64 ({ en with term := r.tm }).kind, .int .u64 ({ en with term := r.tm }).client, .int .u64 ({ en with term := r.tm }).seq, .string ({ en with term := r.tm }).sql] 69)
  have hP1 := hP.alloc (.cells #[.int .u64 ({ en with term := r.tm }).term, .int .i64 ({ en with term := r.tm }).kind, .int .u64 ({ en with term := r.tm }).client, .int .u64 ({ en with term := r.tm }).seq, .string ({ en with term := r.tm }).sql] 69)
  have hk1 := (Keeps.refl [b, pb, r.lg] w).alloc (.cells #[.int .u64 ({ en with term := r.tm }).term, .int .i64 ({ en with term := r.tm }).kind, .int .u64 ({ en with term := r.tm }).client, .int .u64 ({ en with term := r.tm }).seq, .string ({ en with term := r.tm }).sql] 69)
  have hL1 := hL.keep0 ((Keeps.refl [] w).alloc (.cells #[.int .u64 ({ en with term := r.tm }).term, .int .i64 ({ en with term := r.tm }).kind, .int .u64 ({ en with term := r.tm }).client, .int .u64 ({ en with term := r.tm }).seq, .string ({ en with term := r.tm }).sql] 69))
  go_enter Tryd.func37, Tryd.ntmps37
  go_wp2_with fail
  refine wp_region_still_tail 5 (by kernel_rfl) (by kernel_rfl) ?_
  change wpStill _ _ (World.drew _) _ _ _
  simp only [List.take_succ_cons, List.take_zero, List.drop_succ_cons, List.drop_zero]
  repeat still_step
  refine wpStill_nil ?_
  change wpList _ _ _ _ _ (World.drew _)
  go_wp2_with fail
  refine (ladd r.lg g { en with term := r.tm } _ (LogAt.keep0 hL1 ((Keeps.refl [] _).drew)) hg0 hg1).mono ?_
  rintro e w2 ⟨rfl, hL2, hk2⟩
  have hbl : b ≠ r.lg := by rintro rfl; obtain ⟨_, _, hL0, _, _⟩ := hL; exact absurd rfl (hB.ne hL0 (by decide))
  have hpl : pb ≠ r.lg := by rintro rfl; obtain ⟨_, _, hL0, _, _⟩ := hL; exact absurd rfl (hP.ne hL0 (by decide))
  have hbp : b ≠ pb := hB.ne hP (by decide)
  have hB2 := hB1.drew.keep hk2 (by simpa using hbl)
  have hP2 := hP1.drew.keep hk2 (by simpa using hpl)
  have hk02 : Keeps [b, pb, r.lg] w w2 := hk1.drew.trans (hk2.mono (by intro x hx; simp at hx; simp [hx]))
  clear hc hl hX hB1 hP1 hk1 hL1 hk2
  go_wp2_with fail
  refine (rchanged b r (g.last + 1) w2 hB2 (by unfold Lg.last; omega) hf0).mono ?_
  rintro e w3 ⟨rfl, hB3, hk3⟩
  have hP3 := hP2.keep hk3 (by simpa using fun e => hbp e.symm)
  have hL3 := LogAt.keepB hL2 hk3 hB2 r.nostr (by simpa using fun e => hbl e.symm)
  have hk03 : Keeps [b, pb, r.lg] w w3 := hk02.trans (hk3.mono (by intro x hx; simp at hx; simp [hx]))
  clear hB2 hP2 hL2 hk3 hk02
  have hc := hB3.cell
  simp only [Rf.cells, h0, hps] at hc
  have hl := hB3.lt
  have hcP := hP3.cell
  have hlP := hP3.lt
  have hfP := hP3.free
  go_wp2_with fail
  refine wp_region_still_tail 11 (by kernel_rfl) (by kernel_rfl) ?_
  change wpStill _ _ (World.drew _) _ _ _
  simp only [List.take_succ_cons, List.take_zero, List.drop_succ_cons, List.drop_zero]
  repeat still_step
  refine wpStill_nil ?_
  change wpList _ _ _ _ _ (World.drew _)
  go_wp2_with fail
  go_ret
  have hks := (Keeps.refl [pb] w3).set (p := ⟨pb, 1, none⟩) (by simp) (.int .u64 (g.last + 1))
  exact ⟨rfl, (hB3.other (p := ⟨pb, 1, none⟩) hbp _).drew, ((hP3.put 1 _).eq (by simp)).drew, LogAt.keep0 (LogAt.keepB hL3 hks hP3 (peer_nostr _ _ _) (fun e => hpl e.symm)) (Keeps.refl [] _).drew, (hk03.set (p := ⟨pb, 1, none⟩) (by simp) _).drew⟩

set_option maxRecDepth 100000 in
set_option maxHeartbeats 4000000 in
theorem rcounts1 (b pb : Nat) (r : Rf) (g : Lg) (nx ak : Int) (w : World) (hB : Blk w b 63 r.cells) (hP : Blk w pb 78 (peer nx g.last ak)) (hL : LogAt w r.lg g) (h1 : r.n = 1) (hps : r.ps = (some ⟨pb, 0, none⟩, 1, 1)) (hg0 : 0 ≤ g.base) (hg1 : g.last < 1000000) (hgc : r.cm < g.last) (hat : g.at g.last = r.tm) :
    Calls Tryd.prog 38 #[.pointer (some ⟨b, 0, none⟩)] w fun e w' => e = .returned (.tuple #[]) ∧ Blk w' b 63 ({ r with cm := g.last } : Rf).cells ∧ Keeps [b] w w' := by
  have hc := hB.cell
  simp only [Rf.cells, hps] at hc
  have hl := hB.lt
  go_enter Tryd.func38, Tryd.ntmps38
  go_wp2_with fail
  refine (llastt r.lg g w hL hg0 (by omega)).mono ?_
  rintro e w1 ⟨rfl, hk1⟩
  have hB1 := hB.keep hk1 (by simp)
  have hP1 := hP.keep hk1 (by simp)
  have hL1 := hL.keep0 hk1
  clear hc hl
  have hc := hB1.cell
  simp only [Rf.cells, hps] at hc
  have hl := hB1.lt
  go_wp2_with fail
  refine wp_loop_rounds 1 ?_
  rw [rounds_succ]
  go_wp2_with fail
  refine (lterm_ok r.lg g g.last w1 hL1 hg0 (by omega) (by unfold Lg.last; omega) (Int.le_refl _)).mono ?_
  rintro e w2 ⟨rfl, hk2⟩
  rw [hat]
  have hB2 := hB1.keep hk2 (by simp)
  have hP2 := hP1.keep hk2 (by simp)
  have hk02 := hk1.trans hk2
  clear hc hl hB1 hP1 hL1
  have hc := hB2.cell
  simp only [Rf.cells, hps] at hc
  have hl := hB2.lt
  have hcP := hP2.cell
  have hlP := hP2.lt
  go_wp2_with fail
  refine wp_loop_rounds 2 ?_
  rw [rounds_succ]
  go_wp2_with fail
  rw [rounds_succ]
  go_wp2_with fail
  have hBm := hB2.alloc (.cells (peer nx g.last ak) 78)
  have hkm := hk02.alloc (.cells (peer nx g.last ak) 78)
  have M := rmost b r 1 _ hBm (by omega) (by omega)
  have hd : decide (r.n < 2 * 1) = true := by rw [h1]; decide
  rw [hd] at M
  refine M.mono ?_
  rintro e w' ⟨rfl, rfl⟩
  clear M hc hl hcP hlP hB2 hP2 hk02
  have hc := hBm.cell
  simp only [Rf.cells, hps] at hc
  have hl := hBm.lt
  have hf := hBm.free
  go_wp2_with fail
  (try simp only [Exit.inBlock, Exit.then])
  refine bodyPost_ret (results_none rfl _ _ _) rfl ?_
  exact ⟨rfl, (hBm.put 5 _).eq (by simp [Rf.cells]), hkm.of_nil.set (by simp) _⟩
end Go.Proofs.YtdeaelbelcjhcaaDoor
