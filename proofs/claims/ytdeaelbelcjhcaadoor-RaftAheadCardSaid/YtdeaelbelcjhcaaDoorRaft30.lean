/- A node of a group: released, where nothing waits; heard. -/
import Derived.Test.YtdeaelbelcjhcaaDoorRaft29


namespace Go.Proofs.YtdeaelbelcjhcaaDoor
open Go.RowKit

theorem rreleased_nil (b : Nat) (r : Rf) (w : World) (hB : Blk w b 63 r.cells) (hrs : r.rs.2.1 = 0) :
    Calls Tryd.prog 33 #[.pointer (some ⟨b, 0, none⟩)] w fun e w' => e = .returned (.tuple #[]) ∧ w' = w := by
  have hc := hB.cell
  simp only [Rf.cells, hrs] at hc
  have hl := hB.lt
  go_enter Tryd.func33, Tryd.ntmps33
  go_wp2_with fail
  refine wp_loop_rounds 1 ?_
  rw [rounds_succ]
  go_wp2_with fail
  go_end0
  exact ⟨rfl, rfl⟩

/-- an answer of a follower -/
def amsg (fr tm ix rd : Int) (ok : Bool) : List Value := [.int .i64 4, .int .i64 fr, .int .i64 0, .int .u64 tm, .int .u64 ix, .int .u64 0, .slice none 0 0, .int .u64 0, .int .u64 rd, .bool ok, .int .i64 0, .slice none 0 0, .bool false, .int .u64 0, .int .u64 0, .string ⟨#[]⟩, .int .u64 0, .int .i64 0, .slice none 0 0, .slice none 0 0, .int .i64 0, .int .u64 0, .int .i64 0]

theorem ifmin : ∀ x y : Int, (if y < x then y else x) = min x y := by intro x y; split <;> omega
theorem ifmax : ∀ x y : Int, (if x < y then y else x) = max x y := by intro x y; split <;> omega

def Pe.acks (p : Pe) (rd rr : Int) : Pe := { p with ak := max p.ak (min rd rr) }
def Pe.back (p : Pe) (ix : Int) : Pe := { p with nx := max (min p.nx (ix + 1)) (p.mt + 1) }
def Pe.more (p : Pe) (ix : Int) : Pe := { p with mt := max p.mt ix }
def Pe.forth (p : Pe) (ix : Int) : Pe := if p.nx < max p.mt ix + 1 then { p with mt := max p.mt ix, nx := max p.mt ix + 1, off := 0 } else p.more ix

theorem get_set {l : List Pe} {i : Nat} (h : i < l.length) (q : Pe) : (l.set i q)[i]? = some q := List.getElem?_set_self h

set_option maxRecDepth 100000 in
set_option maxHeartbeats 8000000 in
theorem rheard_no (b pb i : Nat) (r : Rf) (g : Lg) (ps : List Pe) (p : Pe) (tm ix rd : Int) (Q : World → Prop) (w : World) (hR : RC w w.heap.size b pb r g ps) (hp : ps[i]? = some p) (hms : r.ms = (none, 0, 0)) (hg0 : 0 ≤ g.base) (hg1 : g.last < 900000)
    (hx0 : 0 ≤ ix) (hx1 : ix < 1000000) (hm0 : 0 ≤ p.mt) (hm1 : p.mt < 1000000) (hn0 : g.base < max (min p.nx (ix + 1)) (p.mt + 1)) (hn1 : max (min p.nx (ix + 1)) (p.mt + 1) ≤ g.last + 1)
    (Rel : ∀ m ys w1, RC w1 w.heap.size b pb { r with ms := m } g (ps.set i ((p.acks rd r.rd).back ix)) → Ow w1 w.heap.size m ys → Keeps [b, pb] w w1 →
      Calls Tryd.prog 33 #[.pointer (some ⟨b, 0, none⟩)] w1 fun e w' => e = .returned (.tuple #[]) ∧ Q w') :
    Calls Tryd.prog 27 #[.pointer (some ⟨b, 0, none⟩), .agg (amsg (i : Int) tm ix rd false).toArray] w fun e w' => e = .returned (.tuple #[]) ∧ Q w' := by
  obtain ⟨hil, hpe⟩ := List.getElem?_eq_some_iff.1 hp
  have hiL : (i : Int) < (ps.length : Int) := by omega
  have hX := Blk.fresh w 49 (amsg (i : Int) tm ix rd false).toArray
  have hR1 := hR.keep0 ((Keeps.refl [] w).alloc (.cells (amsg (i : Int) tm ix rd false).toArray 49))
  have hk1 := (Keeps.refl [b, pb] w).alloc (.cells (amsg (i : Int) tm ix rd false).toArray 49)
  have hbN := hR.bN
  have hpN := hR.pN
  have HREL := Lib.hid Rel
  have HMS := Lib.hid hms
  clear Rel hpe hR hms
  go_enter Tryd.func27, Tryd.ntmps27
  go_upto_region 1 with (fail)
  generalize World.alloc w _ = w1 at *
  generalize hxe : w.heap.size = xb at *
  have hX1 := hX
  clear hX
  have hc := hR1.B.cell
  simp only [Rf.cells, hR1.hps] at hc
  have hl := hR1.B.lt
  have hcX := hX1.cell
  simp only [amsg] at hcX
  have hlX := hX1.lt
  go_quiet (fail)
  have hX2 := hX1.drewN nq
  have hR2 := hR1.keep0 ((Keeps.refl [] w1).drewN nq)
  have hk2 := hk1.drewN nq
  generalize World.drewN w1 nq = w2 at *
  clear hc hl hcX hlX hX1 hR1 hk1
  have hc := hR2.B.cell
  simp only [Rf.cells, hR2.hps] at hc
  have hl := hR2.B.lt
  have hcX := hX2.cell
  simp only [amsg] at hcX
  have hlX := hX2.lt
  obtain ⟨c0, c1, c2, c3⟩ := pe_cells hR2.P hp
  have hlP := hR2.P.lt
  have hfP := hR2.P.free
  have mn := ifmin
  have mx := ifmax
  go_upto_region 2 with (fail)
  refine wp_region_still_tail 15 (by kernel_rfl) (by kernel_rfl) ?_
  change wpStill _ _ (World.drew _) _ _ _
  simp only [List.take_succ_cons, List.take_zero, List.drop_succ_cons, List.drop_zero]
  repeat still_step
  refine wpStill_nil ?_
  change wpList _ _ _ _ _ (World.drew _)
  go_upto_region 3 with (fail)
  have hPz := (Blk.pe (q := p.acks rd r.rd) hR2.P hp 2 (by omega) (v := .int .u64 (max p.ak (min rd r.rd))) rfl).drew
  have hks := ((Keeps.refl [pb] w2).set (p := ⟨pb, i * 4 + 2, none⟩) (by simp) (.int .u64 (max p.ak (min rd r.rd)))).drew
  have hR3 := hR2.turnP hks (fun x hx => .inl (by simpa using hx)) hPz (by simp)
  have hX3 := hX2.keep hks (by simp; omega)
  have hk3 := hk2.trans (hks.mono (L' := [b, pb]) (by intro x hx; simp at hx; simp [hx]))
  generalize World.drew (World.setCell w2 _ _) = w3 at *
  clear hc hl hcX hlX hX2 hR2 hk2 hPz hks c0 c1 c2 c3 hlP hfP
  have hp3 := get_set hil (p.acks rd r.rd)
  have hc := hR3.B.cell
  simp only [Rf.cells, hR3.hps] at hc
  have hl := hR3.B.lt
  have hcX := hX3.cell
  simp only [amsg] at hcX
  have hlX := hX3.lt
  go_wp2_with fail
  refine (llastt r.lg g w3 hR3.L.at hg0 (by omega)).mono ?_
  rintro e w4 ⟨rfl, hk34⟩
  have hR4 := hR3.keep0 hk34
  have hX4 := hX3.keep hk34 (by simp)
  have hk4 := hk3.trans hk34.of_nil
  clear hc hl hcX hlX hR3 hX3 hk3 hk34
  generalize g.at g.last = gt at *
  have hc := hR4.B.cell
  simp only [Rf.cells, hR4.hps] at hc
  have hl := hR4.B.lt
  have hcX := hX4.cell
  simp only [amsg] at hcX
  have hlX := hX4.lt
  obtain ⟨c0, c1, c2, c3⟩ := pe_cells hR4.P hp3
  simp only [Pe.acks] at c0 c1
  have hlP := hR4.P.lt
  have hfP := hR4.P.free
  have q1 : IntKind.u64.wrap (ix + 1) = ix + 1 := IntWalk.u64_in _ (by omega)
  have q2 : IntKind.u64.wrap (p.mt + 1) = p.mt + 1 := IntWalk.u64_in _ (by omega)
  have HN := Lib.hid (And.intro hn0 hn1)
  clear hn0 hn1 c2 c3
  go_upto_region 5 with (fail)
  refine wp_region_still_tail 17 (by kernel_rfl) (by kernel_rfl) ?_
  change wpStill _ _ (World.drew _) _ _ _
  simp only [List.take_succ_cons, List.take_zero, List.drop_succ_cons, List.drop_zero]
  repeat still_step
  refine wpStill_nil ?_
  change wpList _ _ _ _ _ (World.drew _)
  go_upto_region 6 with (fail)
  have hPz := (Blk.pe (q := (p.acks rd r.rd).back ix) hR4.P hp3 0 (by omega) (v := .int .u64 (max (min p.nx (ix + 1)) (p.mt + 1))) rfl).drew
  rw [List.set_set] at hPz
  have hks := ((Keeps.refl [pb] w4).set (p := ⟨pb, i * 4 + 0, none⟩) (by simp) (.int .u64 (max (min p.nx (ix + 1)) (p.mt + 1)))).drew
  have hR5 := hR4.turnP hks (fun x hx => .inl (by simpa using hx)) hPz (by simp)
  have hX5 := hX4.keep hks (by simp; omega)
  have hk5 := hk4.trans (hks.mono (L' := [b, pb]) (by intro x hx; simp at hx; simp [hx]))
  simp only [Nat.add_zero] at hR5 hX5 hk5
  generalize World.drew (World.setCell w4 _ _) = w5 at *
  clear hc hl hcX hlX hX4 hR4 hk4 hPz hks c0 c1 hlP hfP mn mx q1 q2
  have hc := hR5.B.cell
  simp only [Rf.cells, hR5.hps] at hc
  have hl := hR5.B.lt
  have hcX := hX5.cell
  simp only [amsg] at hcX
  have hlX := hX5.lt
  have hp5 : (ps.set i ((p.acks rd r.rd).back ix))[i]? = some ((p.acks rd r.rd).back ix) := get_set hil _
  have HF := Lib.hid (rfeeds xb b pb r g _ _ i [] w5 hR5 (by rw [HMS.out]; exact Ow.nil _ _) hp5 hg0 hg1 (show g.base < max (min p.nx (ix + 1)) (p.mt + 1) from HN.out.1) HN.out.2 (by rw [HMS.out]; simp))
  clear hp3 hp5
  go_wp2_with fail
  refine HF.out.mono ?_
  rintro e w6 ⟨ao, c, ea, el, ec, rfl, hR6, hO6, hk56⟩
  have hk6 := hk5.trans (hk56.mono (L' := [b, pb]) (by rw [HMS.out]; intro x hx; simp at hx; simp [hx]))
  clear HF hc hl hcX hlX hX5 hR5 hk5 hk56
  have HZ := Lib.hid (HREL.out _ _ w6 hR6 hO6 hk6)
  have hl := hR6.B.lt
  clear HREL hR6 hO6 hk6
  go_wp2_with fail
  refine HZ.out.mono ?_
  rintro e w7 ⟨rfl, hQ⟩
  go_wp2_with fail
  go_end0
  exact ⟨rfl, hQ⟩

set_option maxRecDepth 100000 in
set_option maxHeartbeats 8000000 in
theorem rheard_ok (b pb i : Nat) (r : Rf) (g : Lg) (ps : List Pe) (p : Pe) (tm ix rd : Int) (Q : World → Prop) (w : World) (hR : RC w w.heap.size b pb r g ps) (hp : ps[i]? = some p) (hms : r.ms = (none, 0, 0)) (hg0 : 0 ≤ g.base) (hg1 : g.last < 900000)
    (hx0 : 0 ≤ ix) (hx1 : ix ≤ g.last) (hm0 : 0 ≤ p.mt) (hm1 : p.mt ≤ g.last) (hn0 : g.base < p.nx) (hn : r.n = (ps.length : Int)) (h7 : ps.length ≤ 7) (hgb : g.base ≤ r.cm) (hgc : r.cm ≤ g.last)
    (Rel : ∀ m ys w1, RC w1 w.heap.size b pb { r with cm := counted r g (ps.set i ((p.acks rd r.rd).forth ix)), ms := m } g (ps.set i ((p.acks rd r.rd).forth ix)) → Ow w1 w.heap.size m ys → Keeps [b, pb] w w1 →
      Calls Tryd.prog 33 #[.pointer (some ⟨b, 0, none⟩)] w1 fun e w' => e = .returned (.tuple #[]) ∧ Q w') :
    Calls Tryd.prog 27 #[.pointer (some ⟨b, 0, none⟩), .agg (amsg (i : Int) tm ix rd true).toArray] w fun e w' => e = .returned (.tuple #[]) ∧ Q w' := by
  obtain ⟨hil, hpe⟩ := List.getElem?_eq_some_iff.1 hp
  have hiL : (i : Int) < (ps.length : Int) := by omega
  have hX := Blk.fresh w 49 (amsg (i : Int) tm ix rd true).toArray
  have hR1 := hR.keep0 ((Keeps.refl [] w).alloc (.cells (amsg (i : Int) tm ix rd true).toArray 49))
  have hk1 := (Keeps.refl [b, pb] w).alloc (.cells (amsg (i : Int) tm ix rd true).toArray 49)
  have hbN := hR.bN
  have hpN := hR.pN
  have HREL := Lib.hid Rel
  have HMS := Lib.hid hms
  clear Rel hpe hR hms
  go_enter Tryd.func27, Tryd.ntmps27
  go_upto_region 1 with (fail)
  generalize World.alloc w _ = w1 at *
  generalize hxe : w.heap.size = xb at *
  have hX1 := hX
  clear hX
  have hc := hR1.B.cell
  simp only [Rf.cells, hR1.hps] at hc
  have hl := hR1.B.lt
  have hcX := hX1.cell
  simp only [amsg] at hcX
  have hlX := hX1.lt
  go_quiet (fail)
  have hX2 := hX1.drewN nq
  have hR2 := hR1.keep0 ((Keeps.refl [] w1).drewN nq)
  have hk2 := hk1.drewN nq
  generalize World.drewN w1 nq = w2 at *
  clear hc hl hcX hlX hX1 hR1 hk1
  have hc := hR2.B.cell
  simp only [Rf.cells, hR2.hps] at hc
  have hl := hR2.B.lt
  have hcX := hX2.cell
  simp only [amsg] at hcX
  have hlX := hX2.lt
  obtain ⟨c0, c1, c2, c3⟩ := pe_cells hR2.P hp
  have hlP := hR2.P.lt
  have hfP := hR2.P.free
  have mn := ifmin
  have mx := ifmax
  go_upto_region 2 with (fail)
  refine wp_region_still_tail 15 (by kernel_rfl) (by kernel_rfl) ?_
  change wpStill _ _ (World.drew _) _ _ _
  simp only [List.take_succ_cons, List.take_zero, List.drop_succ_cons, List.drop_zero]
  repeat still_step
  refine wpStill_nil ?_
  change wpList _ _ _ _ _ (World.drew _)
  go_upto_region 3 with (fail)
  have hPz := (Blk.pe (q := p.acks rd r.rd) hR2.P hp 2 (by omega) (v := .int .u64 (max p.ak (min rd r.rd))) rfl).drew
  have hks := ((Keeps.refl [pb] w2).set (p := ⟨pb, i * 4 + 2, none⟩) (by simp) (.int .u64 (max p.ak (min rd r.rd)))).drew
  have hR3 := hR2.turnP hks (fun x hx => .inl (by simpa using hx)) hPz (by simp)
  have hX3 := hX2.keep hks (by simp; omega)
  have hk3 := hk2.trans (hks.mono (L' := [b, pb]) (by intro x hx; simp at hx; simp [hx]))
  generalize World.drew (World.setCell w2 _ _) = w3 at *
  clear hc hl hcX hlX hX2 hR2 hk2 hPz hks c0 c1 c2 c3 hlP hfP
  have hp3 := get_set hil (p.acks rd r.rd)
  have hc := hR3.B.cell
  simp only [Rf.cells, hR3.hps] at hc
  have hl := hR3.B.lt
  have hcX := hX3.cell
  simp only [amsg] at hcX
  have hlX := hX3.lt
  go_wp2_with fail
  refine (llastt r.lg g w3 hR3.L.at hg0 (by omega)).mono ?_
  rintro e w4 ⟨rfl, hk34⟩
  have hR4 := hR3.keep0 hk34
  have hX4 := hX3.keep hk34 (by simp)
  have hk4 := hk3.trans hk34.of_nil
  clear hc hl hcX hlX hR3 hX3 hk3 hk34
  generalize g.at g.last = gt at *
  have hc := hR4.B.cell
  simp only [Rf.cells, hR4.hps] at hc
  have hl := hR4.B.lt
  have hcX := hX4.cell
  simp only [amsg] at hcX
  have hlX := hX4.lt
  obtain ⟨c0, c1, c2, c3⟩ := pe_cells hR4.P hp3
  simp only [Pe.acks] at c0 c1
  have hlP := hR4.P.lt
  have hfP := hR4.P.free
  clear c2 c3
  go_upto_region 8 with (fail)
  go_quiet (fail)
  have hX5 := hX4.drewN nq
  have hR5 := hR4.keep0 ((Keeps.refl [] w4).drewN nq)
  have hk5 := hk4.drewN nq
  generalize World.drewN w4 nq = w5 at *
  clear hc hl hcX hlX hX4 hR4 hk4 c0 c1 hlP hfP
  have hc := hR5.B.cell
  simp only [Rf.cells, hR5.hps] at hc
  have hl := hR5.B.lt
  have hcX := hX5.cell
  simp only [amsg] at hcX
  have hlX := hX5.lt
  obtain ⟨c0, c1, c2, c3⟩ := pe_cells hR5.P hp3
  simp only [Pe.acks] at c0 c1
  have hlP := hR5.P.lt
  have hfP := hR5.P.free
  clear c2 c3
  go_upto_region 9 with (fail)
  refine wp_region_still_tail 10 (by kernel_rfl) (by kernel_rfl) ?_
  change wpStill _ _ (World.drew _) _ _ _
  simp only [List.take_succ_cons, List.take_zero, List.drop_succ_cons, List.drop_zero]
  repeat still_step
  refine wpStill_nil ?_
  change wpList _ _ _ _ _ (World.drew _)
  go_upto_region 10 with (fail)
  obtain ⟨M, hM⟩ : ∃ M, max p.mt ix = M := ⟨_, rfl⟩
  rw [hM]
  have hM0 : 0 ≤ M := by omega
  have hM1 : M ≤ g.last := by omega
  have HM := Lib.hid hM
  have hPz := (Blk.pe (q := { p.acks rd r.rd with mt := M }) hR5.P hp3 1 (by omega) (v := .int .u64 M) rfl).drew
  rw [List.set_set] at hPz
  have hks := ((Keeps.refl [pb] w5).set (p := ⟨pb, i * 4 + 1, none⟩) (by simp) (.int .u64 M)).drew
  have hR6 := hR5.turnP hks (fun x hx => .inl (by simpa using hx)) hPz (by simp)
  have hX6 := hX5.keep hks (by simp; omega)
  have hk6 := hk5.trans (hks.mono (L' := [b, pb]) (by intro x hx; simp at hx; simp [hx]))
  generalize World.drew (World.setCell w5 _ _) = w6 at *
  clear hM hc hl hcX hlX hX5 hR5 hk5 hPz hks c0 c1 hlP hfP mn mx hp3
  have hp6 := get_set hil { p.acks rd r.rd with mt := M }
  have hc := hR6.B.cell
  simp only [Rf.cells, hR6.hps] at hc
  have hl := hR6.B.lt
  have hcX := hX6.cell
  simp only [amsg] at hcX
  have hlX := hX6.lt
  obtain ⟨c0, c1, c2, c3⟩ := pe_cells hR6.P hp6
  simp only [Pe.acks] at c0 c1
  have hlP := hR6.P.lt
  have hfP := hR6.P.free
  clear c2
  have q2 : IntKind.u64.wrap (M + 1) = M + 1 := IntWalk.u64_in _ (by omega)
  go_quiet (fail)
  have hX7 := hX6.drewN nq
  have hR7 := hR6.keep0 ((Keeps.refl [] w6).drewN nq)
  have hk7 := hk6.drewN nq
  have d0 : (w6.drewN nq).cell? ⟨pb, i * 4, none⟩ = some (.int .u64 p.nx) := c0
  have d1 : (w6.drewN nq).cell? ⟨pb, i * 4 + 1, none⟩ = some (.int .u64 M) := c1
  have d3 : (w6.drewN nq).cell? ⟨pb, i * 4 + 3, none⟩ = some (.int .i64 p.off) := c3
  have hfQ : ∀ j, (w6.drewN nq).frozen? ⟨pb, j, none⟩ = false := hfP
  generalize World.drewN w6 nq = w7 at *
  clear hc hl hcX hlX hX6 hR6 hk6 c0 c1 c3 hlP hfP
  obtain ⟨p2, hp2⟩ : ∃ p2, (p.acks rd r.rd).forth ix = p2 := ⟨_, rfl⟩
  go_upto_if 94 with (fail)
  go_cut [] (fun wx => RC wx xb b pb r g (ps.set i p2) ∧ Blk wx xb 49 (amsg (i : Int) tm ix rd true).toArray ∧ Keeps [b, pb] w wx)
  case first =>
    by_cases hlt : p.nx < M + 1
    · have HP2 := Lib.hid (show (⟨M + 1, M, (p.acks rd r.rd).ak, 0⟩ : Pe) = p2 by rw [← hp2]; unfold Pe.forth; rw [show max (p.acks rd r.rd).mt ix = M from HM.out, if_pos (show (p.acks rd r.rd).nx < M + 1 from hlt)])
      clear hp2
      go_wp2_with fail
      go_meet
      have hP1 := Blk.pe (q := { p.acks rd r.rd with mt := M, nx := M + 1 }) hR7.P hp6 0 (by omega) (v := .int .u64 (M + 1)) rfl
      have hP2 := Blk.pe (q := ⟨M + 1, M, (p.acks rd r.rd).ak, 0⟩) hP1 (get_set (by simpa using hil) _) 3 (by omega) (v := .int .i64 0) rfl
      rw [List.set_set, List.set_set, HP2.out] at hP2
      have hks := ((Keeps.refl [pb] w7).set (p := ⟨pb, i * 4 + 0, none⟩) (by simp) (.int .u64 (M + 1))).set (p := ⟨pb, i * 4 + 3, none⟩) (by simp) (.int .i64 0)
      simp only [Nat.add_zero] at hP2 hks
      exact ⟨hR7.turnP hks (fun x hx => .inl (by simpa using hx)) hP2 (by simp), hX7.keep hks (by simp; omega), hk7.trans (hks.mono (by intro x hx; simp at hx; simp [hx]))⟩
    · have HP2 := Lib.hid (show { p.acks rd r.rd with mt := M } = p2 by rw [← hp2]; unfold Pe.forth; rw [show max (p.acks rd r.rd).mt ix = M from HM.out, if_neg (show ¬ (p.acks rd r.rd).nx < M + 1 from hlt)]; unfold Pe.more; rw [show max (p.acks rd r.rd).mt ix = M from HM.out])
      clear hp2
      go_wp2_with fail
      go_meet
      refine ⟨?_, hX7, hk7⟩
      rw [← HP2.out]
      exact hR7
  case rest =>
  obtain ⟨hR8, hX8, hk8⟩ := hcut
  clear hR7 hX7 hk7 d0 d1 d3 hfQ hp6 q2
  have hlen : (ps.set i p2).length = ps.length := by simp
  have hp8 := get_set hil p2
  have hnx : g.base < p2.nx := by
    rw [← hp2]; unfold Pe.forth
    split
    · rename_i hh
      have : (p.acks rd r.rd).nx = p.nx := rfl
      simp only []
      omega
    · exact hn0
  have HC := Lib.hid (rcounts xb b pb r g (ps.set i p2) wc hR8 (by rw [hlen]; exact hn) (by rw [hlen]; exact h7) hg0 hg1 hgb hgc)
  have HP2 := Lib.hid hp2
  have HNX := Lib.hid hnx
  have hl := hR8.B.lt
  clear hp2 hnx
  go_wp2_with fail
  refine HC.out.mono ?_
  rintro e w9 ⟨rfl, hR9, hk89⟩
  have hX9 := hX8.keep hk89 (by simp; omega)
  have hk9 := hk8.trans (hk89.mono (L' := [b, pb]) (by intro x hx; simp at hx; simp [hx]))
  clear HC hl hR8 hX8 hk8 hk89
  generalize hCe : counted r g (ps.set i p2) = C at *
  have hRel := HREL.out
  rw [HP2.out, hCe] at hRel
  have HREL2 := Lib.hid hRel
  clear HREL hRel hCe
  obtain ⟨c0, c1, c2, c3⟩ := pe_cells hR9.P hp8
  have hlP := hR9.P.lt
  clear c1 c2 c3
  by_cases hfeed : p.mt < ix ∧ p2.nx ≤ g.last
  · obtain ⟨f1, f2⟩ := hfeed
    have HF := Lib.hid (rfeeds xb b pb { r with cm := C } g _ p2 i [] w9 hR9 (by rw [show ({ r with cm := C } : Rf).ms = r.ms from rfl, HMS.out]; exact Ow.nil _ _) hp8 hg0 hg1 HNX.out (by omega) (by rw [show ({ r with cm := C } : Rf).ms = r.ms from rfl, HMS.out]; simp))
    have hcX := hX9.cell
    simp only [amsg] at hcX
    have hlX := hX9.lt
    go_wp2_with fail
    refine HF.out.mono ?_
    rintro e w10 ⟨ao, c, ea, el, ec, rfl, hR10, hO10, hk910⟩
    have hk10 := hk9.trans (hk910.mono (L' := [b, pb]) (by rw [show ({ r with cm := C } : Rf).ms = r.ms from rfl, HMS.out]; intro x hx; simp at hx; simp [hx]))
    clear HF hcX hlX hX9 hR9 hk9 hk910 c0 hlP
    have HZ := Lib.hid (HREL2.out _ _ w10 hR10 hO10 hk10)
    have hl := hR10.B.lt
    clear HREL2 hR10 hO10 hk10
    go_wp2_with fail
    refine HZ.out.mono ?_
    rintro e w7 ⟨rfl, hQ⟩
    go_wp2_with fail
    go_end0
    exact ⟨rfl, hQ⟩
  · have hr : ({ r with cm := C, ms := (none, 0, 0) } : Rf) = { r with cm := C } := by rw [← HMS.out]
    have HZ := Lib.hid (HREL2.out (none, 0, 0) [] w9 (by rw [hr]; exact hR9) (Ow.nil _ _) hk9)
    have hl := hR9.B.lt
    clear HREL2 hk9 hr hR9
    by_cases f1 : p.mt < ix
    · have f2 : ¬ p2.nx ≤ g.last := fun h => hfeed ⟨f1, h⟩
      clear hfeed
      go_wp2_with fail
      refine HZ.out.mono ?_
      rintro e w7 ⟨rfl, hQ⟩
      go_wp2_with fail
      go_end0
      exact ⟨rfl, hQ⟩
    · clear hfeed
      go_wp2_with fail
      refine HZ.out.mono ?_
      rintro e w7 ⟨rfl, hQ⟩
      go_wp2_with fail
      go_end0
      exact ⟨rfl, hQ⟩

set_option maxRecDepth 100000 in
set_option maxHeartbeats 8000000 in
theorem rheard_far (b pb i : Nat) (r : Rf) (g : Lg) (ps : List Pe) (p : Pe) (tm ix rd : Int) (Q : World → Prop) (w : World) (hR : RC w w.heap.size b pb r g ps) (hp : ps[i]? = some p) (hms : r.ms = (none, 0, 0)) (hg0 : 0 ≤ g.base) (hg1 : g.last < 900000)
    (hx1 : g.last < ix)
    (Rel : ∀ ys w1, RC w1 w.heap.size b pb r g (ps.set i (p.acks rd r.rd)) → Ow w1 w.heap.size r.ms ys → Keeps [b, pb] w w1 →
      Calls Tryd.prog 33 #[.pointer (some ⟨b, 0, none⟩)] w1 fun e w' => e = .returned (.tuple #[]) ∧ Q w') :
    Calls Tryd.prog 27 #[.pointer (some ⟨b, 0, none⟩), .agg (amsg (i : Int) tm ix rd true).toArray] w fun e w' => e = .returned (.tuple #[]) ∧ Q w' := by
  obtain ⟨hil, hpe⟩ := List.getElem?_eq_some_iff.1 hp
  have hiL : (i : Int) < (ps.length : Int) := by omega
  have hX := Blk.fresh w 49 (amsg (i : Int) tm ix rd true).toArray
  have hR1 := hR.keep0 ((Keeps.refl [] w).alloc (.cells (amsg (i : Int) tm ix rd true).toArray 49))
  have hk1 := (Keeps.refl [b, pb] w).alloc (.cells (amsg (i : Int) tm ix rd true).toArray 49)
  have hbN := hR.bN
  have hpN := hR.pN
  have HREL := Lib.hid Rel
  have HMS := Lib.hid hms
  clear Rel hpe hR hms
  go_enter Tryd.func27, Tryd.ntmps27
  go_upto_region 1 with (fail)
  generalize World.alloc w _ = w1 at *
  generalize hxe : w.heap.size = xb at *
  have hX1 := hX
  clear hX
  have hc := hR1.B.cell
  simp only [Rf.cells, hR1.hps] at hc
  have hl := hR1.B.lt
  have hcX := hX1.cell
  simp only [amsg] at hcX
  have hlX := hX1.lt
  go_quiet (fail)
  have hX2 := hX1.drewN nq
  have hR2 := hR1.keep0 ((Keeps.refl [] w1).drewN nq)
  have hk2 := hk1.drewN nq
  generalize World.drewN w1 nq = w2 at *
  clear hc hl hcX hlX hX1 hR1 hk1
  have hc := hR2.B.cell
  simp only [Rf.cells, hR2.hps] at hc
  have hl := hR2.B.lt
  have hcX := hX2.cell
  simp only [amsg] at hcX
  have hlX := hX2.lt
  obtain ⟨c0, c1, c2, c3⟩ := pe_cells hR2.P hp
  have hlP := hR2.P.lt
  have hfP := hR2.P.free
  have mn := ifmin
  have mx := ifmax
  go_upto_region 2 with (fail)
  refine wp_region_still_tail 15 (by kernel_rfl) (by kernel_rfl) ?_
  change wpStill _ _ (World.drew _) _ _ _
  simp only [List.take_succ_cons, List.take_zero, List.drop_succ_cons, List.drop_zero]
  repeat still_step
  refine wpStill_nil ?_
  change wpList _ _ _ _ _ (World.drew _)
  go_upto_region 3 with (fail)
  have hPz := (Blk.pe (q := p.acks rd r.rd) hR2.P hp 2 (by omega) (v := .int .u64 (max p.ak (min rd r.rd))) rfl).drew
  have hks := ((Keeps.refl [pb] w2).set (p := ⟨pb, i * 4 + 2, none⟩) (by simp) (.int .u64 (max p.ak (min rd r.rd)))).drew
  have hR3 := hR2.turnP hks (fun x hx => .inl (by simpa using hx)) hPz (by simp)
  have hX3 := hX2.keep hks (by simp; omega)
  have hk3 := hk2.trans (hks.mono (L' := [b, pb]) (by intro x hx; simp at hx; simp [hx]))
  generalize World.drew (World.setCell w2 _ _) = w3 at *
  clear hc hl hcX hlX hX2 hR2 hk2 hPz hks c0 c1 c2 c3 hlP hfP
  have hp3 := get_set hil (p.acks rd r.rd)
  have hc := hR3.B.cell
  simp only [Rf.cells, hR3.hps] at hc
  have hl := hR3.B.lt
  have hcX := hX3.cell
  simp only [amsg] at hcX
  have hlX := hX3.lt
  go_wp2_with fail
  refine (llastt r.lg g w3 hR3.L.at hg0 (by omega)).mono ?_
  rintro e w4 ⟨rfl, hk34⟩
  have hR4 := hR3.keep0 hk34
  have hX4 := hX3.keep hk34 (by simp)
  have hk4 := hk3.trans hk34.of_nil
  clear hc hl hcX hlX hR3 hX3 hk3 hk34
  generalize g.at g.last = gt at *
  have hc := hR4.B.cell
  simp only [Rf.cells, hR4.hps] at hc
  have hl := hR4.B.lt
  have hcX := hX4.cell
  simp only [amsg] at hcX
  have hlX := hX4.lt
  have hx2 : ¬ (ix ≤ g.last) := by omega
  have HZ := Lib.hid (HREL.out [] w4 hR4 (by rw [HMS.out]; exact Ow.nil _ _) hk4)
  clear hR4 hk4 HREL hX4 hp3 hp mn mx
  go_wp2_with fail
  refine HZ.out.mono ?_
  rintro e w7 ⟨rfl, hQ⟩
  go_wp2_with fail
  go_end0
  exact ⟨rfl, hQ⟩

end Go.Proofs.YtdeaelbelcjhcaaDoor
