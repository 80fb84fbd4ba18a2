/- A node of raft: New of a group. -/
import Derived.Test.YtdeaelbelcjhcaaDoorRaft14
import Derived.Test.YtdeaelbelcjhcaaDoorRaft6


namespace Go.Proofs.YtdeaelbelcjhcaaDoor
open Go.RowKit

/-- a follower that has just begun -/
def fol (n tm : Int) (lg : Nat) (cm el tmo : Int) : Rf := ⟨0, n, tm, -1, lg, cm, 0, -1, el, tmo, (none, 0, 0), 0, 0, (none, 0, 0), (none, 0, 0), (none, 0, 0), 0, 0, 0, (none, 0, 0), (none, 0, 0)⟩

set_option maxRecDepth 100000 in
set_option maxHeartbeats 4000000 in
theorem rnewN (n tm : Int) (lg : Nat) (g : Lg) (d : Int) (w : World) (hL : LogAt w lg g) (n0 : 1 ≤ n) (n1 : n ≤ 7) :
    Calls Tryd.prog 5 #[.int .i64 0, .int .i64 n, .agg #[.int .u64 tm, .int .i64 (-1)], .pointer (some ⟨lg, 0, none⟩), .int .i64 d] w fun e w' => ∃ b, e = .returned (.tuple #[.pointer (some ⟨b, 0, none⟩), .nilIface]) ∧ w.heap.size ≤ b ∧
      Blk w' b 63 (fol n tm lg g.base 0 (10 + d.tmod 20 % 20)).cells ∧ LogAt w' lg g ∧ Keeps [] w w' := by
  have hk1 := (Keeps.refl [] w).alloc (.cells #[.int .u64 tm, .int .i64 (-1)] 30)
  have hX := Blk.fresh w 30 #[.int .u64 tm, .int .i64 (-1)]
  have n2 : ¬ (n < 1) := by omega
  have n3 : ¬ (7 < n) := by omega
  have n4 : ¬ (n ≤ 0) := by omega
  go_enter Tryd.func5, Tryd.ntmps5
  go_upto_region 4 with (fail)
  have hB1 := Blk.fresh_at (w.alloc (.cells #[.int .u64 tm, .int .i64 (-1)] 30)) 63 (fol n tm lg 0 0 0).cells (n := w.heap.size + 1) (by simp)
  have hk2 := hk1.alloc (.cells (fol n tm lg 0 0 0).cells 63)
  have hL1 := hL.keep0 hk2
  simp only [Rf.cells, fol] at hB1 hk2 hL1
  generalize hW : World.alloc (World.alloc w _) _ = w1 at *
  replace hB1 := hB1.eq (cs' := (fol n tm lg 0 0 0).cells) rfl
  have hbb : w.heap.size ≤ w.heap.size + 1 := by omega
  have hlw : lg < w.heap.size := hL.lt
  generalize w.heap.size + 1 = b at *
  clear hW hk1 hX hL
  go_wp2_with fail
  refine (lbase lg g w1 hL1).mono ?_
  rintro e w2 ⟨rfl, hk3⟩
  have hB2 := hB1.keep hk3 (by simp)
  have hL2 := hL1.keep0 hk3
  have hk4 := hk2.trans hk3
  clear hB1 hL1 hk2 hk3
  have hc := hB2.cell
  simp only [Rf.cells, fol] at hc
  have hl := hB2.lt
  have hf := hB2.free
  go_upto_region 5 with (fail)
  have hB3 := (hB2.put 5 (.int .u64 g.base)).eq (cs' := (fol n tm lg g.base 0 0).cells) (by simp [Rf.cells, fol])
  have hks := (Keeps.refl [b] w2).set (p := ⟨b, 5, none⟩) (by simp) (.int .u64 g.base)
  have hL3 := hL2.keepB hks hB2 (Rf.nostr _) (by omega)
  have hk5 : Keeps [] w (w2.setCell ⟨b, 5, none⟩ (.int .u64 g.base)) := hk4.set (p := ⟨b, 5, none⟩) (by simp; omega) _
  generalize World.setCell w2 _ _ = w3 at *
  clear hc hl hf hB2 hL2 hk4 hks
  go_wp2_with fail
  refine (rdraws b _ d w3 hB3).mono ?_
  rintro e w4 ⟨rfl, hB4, hk6⟩
  have hL4 := hL3.keepB hk6 hB3 (Rf.nostr _) (by omega)
  have hk7 : Keeps [] w w4 := hk5.step hk6 (by intro x hx; simp at hx; right; omega)
  go_wp2_with fail
  go_ret2
  exact ⟨b, rfl, hbb, hB4, hL4, hk7⟩

end Go.Proofs.YtdeaelbelcjhcaaDoor
