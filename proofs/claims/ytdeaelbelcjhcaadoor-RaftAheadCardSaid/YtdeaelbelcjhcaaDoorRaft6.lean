/- A node of raft that is alone: New, Tick of a follower. -/
import Derived.Test.YtdeaelbelcjhcaaDoorRaft5

namespace Go.Proofs.YtdeaelbelcjhcaaDoor
open Go.RowKit

/-- a Ready is stored whole -/
theorem put6 {w : World} {xb : Nat} {x0 x1 x2 x3 x4 x5 : Value} (hX : Blk w xb 36 #[x0, x1, x2, x3, x4, x5]) (v0 v1 v2 v3 v4 v5 : Value) :
    Blk ((((((w.setCell ⟨xb, 0, none⟩ v0).setCell ⟨xb, 1, none⟩ v1).setCell ⟨xb, 2, none⟩ v2).setCell ⟨xb, 3, none⟩ v3).setCell ⟨xb, 4, none⟩ v4).setCell ⟨xb, 5, none⟩ v5) xb 36 #[v0, v1, v2, v3, v4, v5] ∧
    Keeps [xb] w ((((((w.setCell ⟨xb, 0, none⟩ v0).setCell ⟨xb, 1, none⟩ v1).setCell ⟨xb, 2, none⟩ v2).setCell ⟨xb, 3, none⟩ v3).setCell ⟨xb, 4, none⟩ v4).setCell ⟨xb, 5, none⟩ v5) :=
  ⟨((((((hX.put 0 v0).put 1 v1).put 2 v2).put 3 v3).put 4 v4).put 5 v5).eq (by simp),
    ((((((Keeps.refl [xb] w).set (p := ⟨xb, 0, none⟩) (by simp) v0).set (p := ⟨xb, 1, none⟩) (by simp) v1).set (p := ⟨xb, 2, none⟩) (by simp) v2).set (p := ⟨xb, 3, none⟩) (by simp) v3).set (p := ⟨xb, 4, none⟩) (by simp) v4).set (p := ⟨xb, 5, none⟩) (by simp) v5⟩

/-- a follower that is alone -/
def alone (tm : Int) (lg : Nat) (el tmo : Int) : Rf := ⟨0, 1, tm, -1, lg, 0, 0, -1, el, tmo, (none, 0, 0), 0, 0, (none, 0, 0), (none, 0, 0), (none, 0, 0), 0, 0, 0, (none, 0, 0), (none, 0, 0)⟩

set_option maxRecDepth 100000 in
set_option maxHeartbeats 4000000 in
theorem rnew1 (tm : Int) (lg : Nat) (d : Int) (w : World) (hL : LogAt w lg ⟨0, 0, []⟩) :
    Calls Tryd.prog 5 #[.int .i64 0, .int .i64 1, .agg #[.int .u64 tm, .int .i64 (-1)], .pointer (some ⟨lg, 0, none⟩), .int .i64 d] w fun e w' => ∃ b, e = .returned (.tuple #[.pointer (some ⟨b, 0, none⟩), .nilIface]) ∧ w.heap.size ≤ b ∧
      Blk w' b 63 (alone tm lg 0 (10 + d.tmod 20 % 20)).cells ∧ LogAt w' lg ⟨0, 0, []⟩ ∧ Keeps [] w w' := by
  have hk1 := (Keeps.refl [] w).alloc (.cells #[.int .u64 tm, .int .i64 (-1)] 30)
  have hX := Blk.fresh w 30 #[.int .u64 tm, .int .i64 (-1)]
  go_enter Tryd.func5, Tryd.ntmps5
  go_upto_region 4 with (fail)
  have hB1 := Blk.fresh_at (w.alloc (.cells #[.int .u64 tm, .int .i64 (-1)] 30)) 63 (alone tm lg 0 0).cells (n := w.heap.size + 1) (by simp)
  have hk2 := hk1.alloc (.cells (alone tm lg 0 0).cells 63)
  have hL1 := hL.keep0 hk2
  simp only [Rf.cells, alone] at hB1 hk2 hL1
  generalize hW : World.alloc (World.alloc w _) _ = w1 at *
  replace hB1 := hB1.eq (cs' := (alone tm lg 0 0).cells) rfl
  have hbb : w.heap.size ≤ w.heap.size + 1 := by omega
  have hlw : lg < w.heap.size := hL.lt
  generalize w.heap.size + 1 = b at *
  clear hW hk1 hX hL
  go_wp2_with fail
  refine (lbase lg ⟨0, 0, []⟩ w1 hL1).mono ?_
  rintro e w2 ⟨rfl, hk3⟩
  have hB2 := hB1.keep hk3 (by simp)
  have hL2 := hL1.keep0 hk3
  have hk4 := hk2.trans hk3
  clear hB1 hL1 hk2 hk3
  have hc := hB2.cell
  simp only [Rf.cells, alone] at hc
  have hl := hB2.lt
  have hf := hB2.free
  go_upto_region 5 with (fail)
  have hB3 := (hB2.put 5 (.int .u64 0)).eq (cs' := (alone tm lg 0 0).cells) (by simp [Rf.cells, alone])
  have hks := (Keeps.refl [b] w2).set (p := ⟨b, 5, none⟩) (by simp) (.int .u64 0)
  have hL3 := hL2.keepB hks hB2 (Rf.nostr _) (by omega)
  have hk5 : Keeps [] w (w2.setCell ⟨b, 5, none⟩ (.int .u64 0)) := hk4.set (p := ⟨b, 5, none⟩) (by simp; omega) _
  generalize World.setCell w2 _ _ = w3 at *
  clear hc hl hf hB2 hL2 hk4 hks
  go_wp2_with fail
  refine (rdraws b _ d w3 hB3).mono ?_
  rintro e w4 ⟨rfl, hB4, hk6⟩
  have hL4 := hL3.keepB hk6 hB3 (Rf.nostr _) (by omega)
  have hk7 : Keeps [] w w4 := hk5.step hk6 (by intro x hx; simp at hx; right; omega)
  go_wp2_with fail
  go_ret2
  exact ⟨b, rfl, hbb, hB4, hL4, hk7⟩

set_option maxRecDepth 100000 in
set_option maxHeartbeats 4000000 in
theorem rtick_wait (b : Nat) (r : Rf) (d : Int) (w : World) (hB : Blk w b 63 r.cells) (hro : r.ro = 0) (h0 : 0 ≤ r.el) (h1 : r.el + 1 < r.tmo) (h2 : r.tmo < 1000) :
    Calls Tryd.prog 7 #[.pointer (some ⟨b, 0, none⟩), .int .i64 d] w fun e w' => (∃ v, e = .returned v) ∧ Blk w' b 63 ({ r with el := r.el + 1 } : Rf).bare.cells ∧ Keeps [b] w w' := by
  have hc := hB.cell
  simp only [Rf.cells, hro] at hc
  have hl := hB.lt
  have hf := hB.free
  have q1 : IntKind.i64.wrap (r.el + 1) = r.el + 1 := IntWalk.i64_in _ (by omega)
  go_enter Tryd.func7, Tryd.ntmps7
  go_upto_region 11 with (fail)
  have hB1 := ((hB.put 8 (.int .i64 (r.el + 1))).alloc (.cells #[.slice none 0 0, .int .u64 0, .int .i64 0, .int .u64 0, .slice none 0 0, .slice none 0 0] 36)).eq (cs' := ({ r with el := r.el + 1 } : Rf).cells) (by simp [Rf.cells])
  have hX1 := Blk.fresh_at (w.setCell ⟨b, 8, none⟩ (.int .i64 (r.el + 1))) 36 #[.slice none 0 0, .int .u64 0, .int .i64 0, .int .u64 0, .slice none 0 0, .slice none 0 0] (n := w.heap.size) (by simp)
  have hk1 := ((Keeps.refl [b] w).set (p := ⟨b, 8, none⟩) (by simp) (.int .i64 (r.el + 1))).alloc (.cells #[.slice none 0 0, .int .u64 0, .int .i64 0, .int .u64 0, .slice none 0 0, .slice none 0 0] 36)
  generalize World.alloc (World.setCell w _ _) _ = w1 at *
  have hxb : w.heap.size ≠ b := by omega
  have hxw : w.heap.size ≤ w.heap.size := Nat.le_refl _
  clear hc hf hB
  have hc := hB1.cell
  simp only [Rf.cells, hro] at hc
  have hl1 := hB1.lt
  go_quiet (fail)
  have hB2 := hB1.drewN nq
  have hX2 := hX1.drewN nq
  have hk2 := hk1.drewN nq
  generalize World.drewN w1 nq = w2 at *
  clear hc hB1 hX1 hk1
  go_upto_region 13 with (fail)
  go_wp2_with fail
  refine (rready b _ w2 hB2).mono ?_
  rintro e w3 ⟨rfl, hB3, hk3⟩
  have hX3 := hX2.keep hk3 (by simpa using hxb)
  have hk4 := hk2.trans hk3
  clear hB2 hX2 hk2 hk3
  simp only [Rf.out]
  have hcX := hX3.cell
  have hlX := hX3.lt
  have hfX := hX3.free
  generalize hxe : w.heap.size = xb at *
  go_wp2_with fail
  have hbx : b ≠ xb := fun e => hxb e.symm
  have hp : ∀ i, (⟨xb, i, none⟩ : Addr).block ∈ [b] ∨ w.heap.size ≤ (⟨xb, i, none⟩ : Addr).block := fun i => .inr (Nat.le_of_eq hxe)
  exact bodyPost_ret (results_c rfl rfl (Blk.eq (cs' := ({ r with el := r.el + 1 } : Rf).out) ((((((hX3.put 0 _).put 1 _).put 2 _).put 3 _).put 4 _).put 5 _) (by simp [Rf.out])) Tryd.underlying36 rfl Tryd.sizeRE) rfl
    ⟨⟨_, rfl⟩, (((((hB3.other (p := ⟨xb, 0, none⟩) hbx _).other (p := ⟨xb, 1, none⟩) hbx _).other (p := ⟨xb, 2, none⟩) hbx _).other (p := ⟨xb, 3, none⟩) hbx _).other (p := ⟨xb, 4, none⟩) hbx _).other (p := ⟨xb, 5, none⟩) hbx _,
      (((((hk4.set (hp 0) _).set (hp 1) _).set (hp 2) _).set (hp 3) _).set (hp 4) _).set (hp 5) _⟩
set_option maxRecDepth 100000 in
set_option maxHeartbeats 4000000 in
theorem rtick_stand (b : Nat) (r : Rf) (g : Lg) (d : Int) (w : World) (hB : Blk w b 63 r.cells) (hL : LogAt w r.lg g) (hro : r.ro = 0) (h0 : 0 ≤ r.el) (h1 : r.tmo ≤ r.el + 1) (h2 : r.el < 1000) (hid : r.id = 0) (hn : r.n = 1) (hf0 : r.fr = 0) (hg0 : 0 ≤ g.base) (hg1 : g.last < 900000) (hgc : r.cm ≤ g.last) (ht0 : 0 ≤ r.tm) (ht1 : r.tm < 1000000) :
    Calls Tryd.prog 7 #[.pointer (some ⟨b, 0, none⟩), .int .i64 d] w fun e w' => ∃ pb vb, (∃ v, e = .returned v) ∧ w.heap.size ≤ pb ∧
      Blk w' b 63 (({ r with tm := r.tm + 1, vt := 0, el := 0, tmo := 10 + d.tmod 20 % 20, vs := (some ⟨vb, 0, none⟩, 1, 1) } : Rf).led pb (g.last + 1)).bare.cells ∧ Blk w' pb 78 (peer (g.last + 1) (g.last + 1) 1) ∧
      LogAt w' r.lg { g with es := g.es ++ [⟨r.tm + 1, 0, 0, 0, ⟨#[]⟩⟩] } ∧ Keeps [b, r.lg] w w' := by
  have hbl : b ≠ r.lg := by rintro rfl; obtain ⟨_, _, hL0, _, _⟩ := hL; exact absurd rfl (hB.ne hL0 (by decide))
  have hc := hB.cell
  simp only [Rf.cells, hro] at hc
  have hl := hB.lt
  have hf := hB.free
  have q1 : IntKind.i64.wrap (r.el + 1) = r.el + 1 := IntWalk.i64_in _ (by omega)
  go_enter Tryd.func7, Tryd.ntmps7
  go_upto_region 11 with (fail)
  have hB1 := ((hB.put 8 (.int .i64 (r.el + 1))).alloc (.cells #[.slice none 0 0, .int .u64 0, .int .i64 0, .int .u64 0, .slice none 0 0, .slice none 0 0] 36)).eq (cs' := ({ r with el := r.el + 1 } : Rf).cells) (by simp [Rf.cells])
  have hX1 := Blk.fresh_at (w.setCell ⟨b, 8, none⟩ (.int .i64 (r.el + 1))) 36 #[.slice none 0 0, .int .u64 0, .int .i64 0, .int .u64 0, .slice none 0 0, .slice none 0 0] (n := w.heap.size) (by simp)
  have hk1 := ((Keeps.refl [b] w).set (p := ⟨b, 8, none⟩) (by simp) (.int .i64 (r.el + 1))).alloc (.cells #[.slice none 0 0, .int .u64 0, .int .i64 0, .int .u64 0, .slice none 0 0, .slice none 0 0] 36)
  have hL1 := hL.keepB hk1 hB r.nostr (fun e => hbl e.symm)
  generalize World.alloc (World.setCell w _ _) _ = w1 at *
  have hxl : w.heap.size ≠ r.lg := by have := hL.lt; omega
  have hxb : w.heap.size ≠ b := by omega
  have hxw : w.heap.size ≤ w.heap.size := Nat.le_refl _
  clear hc hf hB hL
  have hc := hB1.cell
  simp only [Rf.cells, hro] at hc
  have hl1 := hB1.lt
  go_quiet (fail)
  have hB2 := hB1.drewN nq
  have hX2 := hX1.drewN nq
  have hk2 := hk1.drewN nq
  have hL2 := hL1.keep0 ((Keeps.refl [] w1).drewN nq)
  generalize World.drewN w1 nq = w2 at *
  clear hc hB1 hX1 hk1 hL1
  go_wp2_with fail
  refine (rstands1 b _ g d w2 hB2 hL2 hid hn hf0 hg0 hg1 hgc ht0 ht1).mono ?_
  rintro e w2b ⟨pb, vb, rfl, hpw, hB2b, hP2b, hL2b, hk2b⟩
  have hX2b := hX2.keep hk2b (by simp; omega)
  have hk2c := (hk2.mono (L' := [b, r.lg]) (by intro x hx; simp at hx; simp [hx])).trans hk2b
  have hlt2 := hX2.lt
  have hpx : pb ≠ w.heap.size := by omega
  have hpw' : w.heap.size ≤ pb := by omega
  have hpb : pb ≠ b := by have := hB2.lt; omega
  have hpl : pb ≠ r.lg := by have := hL2.lt; omega
  clear hB2 hX2 hk2 hL2 hk2b
  go_wp2_with fail
  refine (rready b _ w2b hB2b).mono ?_
  rintro e w3 ⟨rfl, hB3, hk3⟩
  have hX3 := hX2b.keep hk3 (by simpa using hxb)
  have hP3 := hP2b.keep hk3 (by simpa using hpb)
  have hL3 := hL2b.keepB hk3 hB2b (Rf.nostr _) (fun e => hbl e.symm)
  have hk4 := hk2c.trans (hk3.mono (L' := [b, r.lg]) (by intro x hx; simp at hx; simp [hx]))
  clear hB2b hX2b hk2c hk3 hP2b hL2b
  obtain ⟨m1, m2, m3, y1, y2, y3, n1, n2, n3, p1, p2, p3, ho⟩ : ∃ m1 m2 m3 y1 y2 y3 n1 n2 n3 p1 p2 p3, Rf.out (({ ({ r with el := r.el + 1 } : Rf) with tm := r.tm + 1, vt := 0, el := 0, tmo := 10 + d.tmod 20 % 20, vs := (some ⟨vb, 0, none⟩, 1, 1) } : Rf).led pb (g.last + 1)) = #[.slice m1 m2 m3, .int .u64 y1, .int .i64 y2, .int .u64 y3, .slice n1 n2 n3, .slice p1 p2 p3] := ⟨_, _, _, _, _, _, _, _, _, _, _, _, rfl⟩
  rw [ho]
  clear ho
  have hcX := hX3.cell
  have hlX := hX3.lt
  have hfX := hX3.free
  generalize hxe : w.heap.size = xb at *
  go_wp2_with fail
  have hbx : b ≠ xb := fun e => hxb e.symm
  have hX4 := put6 hX3 (.slice m1 m2 m3) (.int .u64 y1) (.int .i64 y2) (.int .u64 y3) (.slice n1 n2 n3) (.slice p1 p2 p3)
  generalize World.setCell (World.setCell _ _ _) ⟨xb, 5, none⟩ _ = w4 at *
  exact bodyPost_ret (results_c rfl rfl hX4.1 Tryd.underlying36 rfl Tryd.sizeRE) rfl
    ⟨pb, vb, ⟨_, rfl⟩, by omega, hB3.keep hX4.2 (by simpa using hbx), hP3.keep hX4.2 (by simpa using hpx), hL3.keepB hX4.2 hX3 (by intro v hv s e; subst e; simp at hv) (fun e => hxl e.symm), hk4.step hX4.2 (by intro x hx; simp at hx; right; omega)⟩
end Go.Proofs.YtdeaelbelcjhcaaDoor
