/- A node of a group: Tick of a follower whose time is up. -/
import Derived.Test.YtdeaelbelcjhcaaDoorRaft28


namespace Go.Proofs.YtdeaelbelcjhcaaDoor
open Go.RowKit

/-- what a step hands on, as six cells -/
theorem Rf.out6 (r : Rf) : ∃ m1 m2 m3 y1 y2 y3 n1 n2 n3 p1 p2 p3, r.out = #[.slice m1 m2 m3, .int .u64 y1, .int .i64 y2, .int .u64 y3, .slice n1 n2 n3, .slice p1 p2 p3] := ⟨_, _, _, _, _, _, _, _, _, _, _, _, rfl⟩

set_option maxRecDepth 100000 in
set_option maxHeartbeats 4000000 in
theorem rtick_standN (b id n : Nat) (r : Rf) (g : Lg) (d : Int) (w : World) (hB : Blk w b 63 r.cells) (hL : LogAt w r.lg g) (hro : r.ro = 0) (h0 : 0 ≤ r.el) (h1 : r.tmo ≤ r.el + 1) (h2' : r.el < 1000) (hid : r.id = (id : Int)) (hn : r.n = (n : Int)) (hin : id < n) (h2 : 2 ≤ n) (h7 : n ≤ 7) (hms : r.ms = (none, 0, 0)) (hg0 : 0 ≤ g.base) (hg1 : g.last < 900000) (ht0 : 0 ≤ r.tm) (ht1 : r.tm < 1000000) :
    Calls Tryd.prog 7 #[.pointer (some ⟨b, 0, none⟩), .int .i64 d] w fun e w' => ∃ vb, (∃ v, e = .returned v) ∧ w.heap.size ≤ vb ∧
      Blk w' b 63 (r.cand vb n d).bare.cells ∧ Blk w' vb 4 (bls (own1 id n)).toArray ∧ LogAt w' r.lg g ∧ Keeps [b] w w' := by
  have hbl : b ≠ r.lg := by rintro rfl; obtain ⟨_, _, hL0, _, _⟩ := hL; exact absurd rfl (hB.ne hL0 (by decide))
  have hc := hB.cell
  simp only [Rf.cells, hro] at hc
  have hl := hB.lt
  have hf := hB.free
  have q1 : IntKind.i64.wrap (r.el + 1) = r.el + 1 := IntWalk.i64_in _ (by omega)
  go_enter Tryd.func7, Tryd.ntmps7
  go_upto_region 11 with (fail)
  have hB1 := ((hB.put 8 (.int .i64 (r.el + 1))).alloc (.cells #[.slice none 0 0, .int .u64 0, .int .i64 0, .int .u64 0, .slice none 0 0, .slice none 0 0] 36)).eq (cs' := ({ r with el := r.el + 1 } : Rf).cells) (by simp [Rf.cells])
  have hX1 := Blk.fresh_at (w.setCell ⟨b, 8, none⟩ (.int .i64 (r.el + 1))) 36 #[.slice none 0 0, .int .u64 0, .int .i64 0, .int .u64 0, .slice none 0 0, .slice none 0 0] (n := w.heap.size) (by simp)
  have hk1 := ((Keeps.refl [b] w).set (p := ⟨b, 8, none⟩) (by simp) (.int .i64 (r.el + 1))).alloc (.cells #[.slice none 0 0, .int .u64 0, .int .i64 0, .int .u64 0, .slice none 0 0, .slice none 0 0] 36)
  have hL1 := hL.keepB hk1 hB r.nostr (fun e => hbl e.symm)
  generalize World.alloc (World.setCell w _ _) _ = w1 at *
  have hxl : w.heap.size ≠ r.lg := by have := hL.lt; omega
  have hxb : w.heap.size ≠ b := by omega
  clear hc hf hB hL
  have hc := hB1.cell
  simp only [Rf.cells, hro] at hc
  have hl1 := hB1.lt
  go_quiet (fail)
  have hB2 := hB1.drewN nq
  have hX2 := hX1.drewN nq
  have hk2 := hk1.drewN nq
  have hL2 := hL1.keep0 ((Keeps.refl [] w1).drewN nq)
  generalize World.drewN w1 nq = w2 at *
  clear hc hB1 hX1 hk1 hL1
  go_wp2_with fail
  refine (rstands b id n _ g d w2 hB2 hL2 hid hn hin h2 h7 hms hg0 hg1 ht0 ht1).mono ?_
  rintro e w2b ⟨vb, m, rfl, hpw, hB2b, hV2b, hL2b, hk2b⟩
  have hX2b := hX2.keep hk2b (by simp; omega)
  have hk2c := hk2.trans hk2b
  have hlt2 := hX2.lt
  have hvw : w.heap.size < vb := by omega
  have hvb : vb ≠ b := by have := hB2.lt; omega
  clear hB2 hX2 hk2 hL2 hk2b
  go_wp2_with fail
  refine (rready b _ w2b hB2b).mono ?_
  rintro e w3 ⟨rfl, hB3, hk3⟩
  have hX3 := hX2b.keep hk3 (by simpa using hxb)
  have hV3 := hV2b.keep hk3 (by simpa using hvb)
  have hL3 := hL2b.keepB hk3 hB2b (Rf.nostr _) (fun e => hbl e.symm)
  have hk4 := hk2c.trans hk3
  clear hB2b hX2b hk2c hk3 hV2b hL2b
  obtain ⟨m1, m2, m3, y1, y2, y3, n1, n2, n3, p1, p2, p3, ho⟩ := Rf.out6 ({ ({ r with el := r.el + 1 } : Rf).cand vb n d with ms := m } : Rf)
  rw [ho]
  clear ho
  have hcX := hX3.cell
  have hlX := hX3.lt
  have hfX := hX3.free
  generalize hxe : w.heap.size = xb at *
  go_wp2_with fail
  have hX4 := put6 hX3 (.slice m1 m2 m3) (.int .u64 y1) (.int .i64 y2) (.int .u64 y3) (.slice n1 n2 n3) (.slice p1 p2 p3)
  generalize World.setCell (World.setCell _ _ _) ⟨xb, 5, none⟩ _ = w4 at *
  exact bodyPost_ret (results_c rfl rfl hX4.1 Tryd.underlying36 rfl Tryd.sizeRE) rfl
    ⟨vb, ⟨_, rfl⟩, by omega, hB3.keep hX4.2 (by simpa using fun e => hxb e.symm), hV3.keep hX4.2 (by simp; omega), hL3.keepB hX4.2 hX3 (by intro v hv s e; subst e; simp at hv) (fun e => hxl e.symm), hk4.step hX4.2 (by intro x hx; simp at hx; right; omega)⟩
end Go.Proofs.YtdeaelbelcjhcaaDoor
