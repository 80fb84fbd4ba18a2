/- A node of a group that leads: Step of an answer. -/
import Derived.Test.YtdeaelbelcjhcaaDoorRaft31


namespace Go.Proofs.YtdeaelbelcjhcaaDoor
open Go.RowKit

/-- a node between two steps -/
structure RT (w : World) (b pb : Nat) (r : Rf) (g : Lg) (ps : List Pe) (rl : List Rq) : Prop where
  R : RC w w.heap.size b pb r g ps
  Q : QsAt w w.heap.size [b, pb] r.rs rl
  ms : r.ms = (none, 0, 0)
  dn : r.dn = (none, 0, 0)
  fr : r.fr = 0

section
variable {w w' : World} {b pb : Nat} {r : Rf} {g : Lg} {ps : List Pe} {rl : List Rq} {L : List Nat}
theorem RT.keep (h : RT w b pb r g ps rl) (hk : Keeps L w w') (hL : ∀ x ∈ L, w.heap.size ≤ x) : RT w' b pb r g ps rl :=
  ⟨(h.R.keep hk hL).grow hk.size (Nat.le_refl _), (h.Q.keep hk (fun x hx => .inr (hL x hx))).grow hk.size, h.ms, h.dn, h.fr⟩
theorem RT.keep0 (h : RT w b pb r g ps rl) (hk : Keeps [] w w') : RT w' b pb r g ps rl := h.keep hk (fun _ hx => by cases hx)
end

theorem own_older {w : World} {N N' sz n c : Nat} {e : TypeId} {ao : Option Addr} {xs : List Value} (h : w.ownsRow N e sz (.slice ao n c) n xs) (hN : N' ≤ N) : w.ownsRow N' e sz (.slice ao n c) n xs := by
  refine ⟨h.1, ?_⟩
  rcases h.2 with h0 | ⟨g, cap, cur, he, hb, rest⟩
  · exact .inl h0
  · exact .inr ⟨g, cap, cur, he, Nat.le_trans hN hb, rest⟩

/-- heard, as one -/
def HdAt (b pb : Nat) (r : Rf) (g : Lg) (ps : List Pe) (rl : List Rq) (cs : List Value) (c2 : Int) (ps2 : List Pe) (k : Nat) : Prop :=
  ∀ X w1, RC w1 w1.heap.size b pb r g ps → QsAt w1 w1.heap.size X r.rs rl → b ∈ X → pb ∈ X → Calls Tryd.prog 27 #[.pointer (some ⟨b, 0, none⟩), .agg cs.toArray] w1 fun e w' =>
    ∃ m d s ys, e = .returned (.tuple #[]) ∧ HS X w1 w' b pb { r with cm := c2, ms := m, dn := d, rs := s } g ps2 ys (rl.drop k) (rl.take k)

theorem hd_no (b pb i : Nat) (r : Rf) (g : Lg) (ps : List Pe) (p : Pe) (rl : List Rq) (tm ix rd : Int) (hp : ps[i]? = some p) (hms : r.ms = (none, 0, 0)) (hdn : r.dn = (none, 0, 0)) (hg0 : 0 ≤ g.base) (hg1 : g.last < 900000) (hn : r.n = (ps.length : Int)) (h7 : ps.length ≤ 7) (hrl : rl.length ≤ 1000)
    (hx0 : 0 ≤ ix) (hx1 : ix < 1000000) (hm0 : 0 ≤ p.mt) (hm1 : p.mt < 1000000) (hn0 : g.base < max (min p.nx (ix + 1)) (p.mt + 1)) (hn1 : max (min p.nx (ix + 1)) (p.mt + 1) ≤ g.last + 1) :
    HdAt b pb r g ps rl (amsg (i : Int) tm ix rd false) r.cm (ps.set i ((p.acks rd r.rd).back ix)) (doneN r.n (ps.set i ((p.acks rd r.rd).back ix)) rl) := by
  intro X w1 hR hQ hbX hpX
  refine (rheard_no b pb i r g ps p tm ix rd (fun w' => ∃ m d s ys, HS X w1 w' b pb { r with ms := m, dn := d, rs := s } g (ps.set i ((p.acks rd r.rd).back ix)) ys (rl.drop (doneN r.n (ps.set i ((p.acks rd r.rd).back ix)) rl)) (rl.take (doneN r.n (ps.set i ((p.acks rd r.rd).back ix)) rl))) w1 hR hp hms hg0 hg1 hx0 hx1 hm0 hm1 hn0 hn1 ?_).mono ?_
  · intro m ys w2 hR2 hO2 hk2
    have hH : HS X w1 w2 b pb { r with ms := m } g (ps.set i ((p.acks rd r.rd).back ix)) ys rl [] :=
      ⟨hR2, hO2, by show w2.ownsRow _ _ 2 (.slice r.dn.1 r.dn.2.1 r.dn.2.2) r.dn.2.1 _; rw [hdn]; exact World.ownsRow_nil _ _ _ _, hQ.keep hk2 (fun x hx => by simp at hx; rcases hx with e | e <;> rw [e]; exact .inl hbX; exact .inl hpX), hk2, hbX, hpX⟩
    refine (rreleased X b pb _ g _ ys rl w1 w2 hH (by simpa using hn) (by simpa using h7) hrl).mono ?_
    rintro e w3 ⟨d, s, rfl, hH3⟩
    exact ⟨rfl, m, d, s, ys, hH3⟩
  · rintro e w' ⟨rfl, m, d, s, ys, hH⟩
    exact ⟨m, d, s, ys, rfl, hH⟩

theorem hd_ok (b pb i : Nat) (r : Rf) (g : Lg) (ps : List Pe) (p : Pe) (rl : List Rq) (tm ix rd : Int) (hp : ps[i]? = some p) (hms : r.ms = (none, 0, 0)) (hdn : r.dn = (none, 0, 0)) (hg0 : 0 ≤ g.base) (hg1 : g.last < 900000) (hn : r.n = (ps.length : Int)) (h7 : ps.length ≤ 7) (hrl : rl.length ≤ 1000)
    (hx0 : 0 ≤ ix) (hx1 : ix ≤ g.last) (hm0 : 0 ≤ p.mt) (hm1 : p.mt ≤ g.last) (hn0 : g.base < p.nx) (hgb : g.base ≤ r.cm) (hgc : r.cm ≤ g.last) :
    HdAt b pb r g ps rl (amsg (i : Int) tm ix rd true) (counted r g (ps.set i ((p.acks rd r.rd).forth ix))) (ps.set i ((p.acks rd r.rd).forth ix)) (doneN r.n (ps.set i ((p.acks rd r.rd).forth ix)) rl) := by
  intro X w1 hR hQ hbX hpX
  refine (rheard_ok b pb i r g ps p tm ix rd (fun w' => ∃ m d s ys, HS X w1 w' b pb { r with cm := counted r g (ps.set i ((p.acks rd r.rd).forth ix)), ms := m, dn := d, rs := s } g (ps.set i ((p.acks rd r.rd).forth ix)) ys (rl.drop (doneN r.n (ps.set i ((p.acks rd r.rd).forth ix)) rl)) (rl.take (doneN r.n (ps.set i ((p.acks rd r.rd).forth ix)) rl))) w1 hR hp hms hg0 hg1 hx0 hx1 hm0 hm1 hn0 hn h7 hgb hgc ?_).mono ?_
  · intro m ys w2 hR2 hO2 hk2
    have hH : HS X w1 w2 b pb { r with cm := counted r g (ps.set i ((p.acks rd r.rd).forth ix)), ms := m } g (ps.set i ((p.acks rd r.rd).forth ix)) ys rl [] :=
      ⟨hR2, hO2, by show w2.ownsRow _ _ 2 (.slice r.dn.1 r.dn.2.1 r.dn.2.2) r.dn.2.1 _; rw [hdn]; exact World.ownsRow_nil _ _ _ _, hQ.keep hk2 (fun x hx => by simp at hx; rcases hx with e | e <;> rw [e]; exact .inl hbX; exact .inl hpX), hk2, hbX, hpX⟩
    refine (rreleased X b pb _ g _ ys rl w1 w2 hH (by simpa using hn) (by simpa using h7) hrl).mono ?_
    rintro e w3 ⟨d, s, rfl, hH3⟩
    exact ⟨rfl, m, d, s, ys, hH3⟩
  · rintro e w' ⟨rfl, m, d, s, ys, hH⟩
    exact ⟨m, d, s, ys, rfl, hH⟩

/-- an answer that says more than the log has -/
theorem hd_far (b pb i : Nat) (r : Rf) (g : Lg) (ps : List Pe) (p : Pe) (rl : List Rq) (tm ix rd : Int) (hp : ps[i]? = some p) (hms : r.ms = (none, 0, 0)) (hdn : r.dn = (none, 0, 0)) (hg0 : 0 ≤ g.base) (hg1 : g.last < 900000) (hn : r.n = (ps.length : Int)) (h7 : ps.length ≤ 7) (hrl : rl.length ≤ 1000)
    (hx1 : g.last < ix) :
    HdAt b pb r g ps rl (amsg (i : Int) tm ix rd true) r.cm (ps.set i (p.acks rd r.rd)) (doneN r.n (ps.set i (p.acks rd r.rd)) rl) := by
  intro X w1 hR hQ hbX hpX
  refine (rheard_far b pb i r g ps p tm ix rd (fun w' => ∃ m d s ys, HS X w1 w' b pb { r with ms := m, dn := d, rs := s } g (ps.set i (p.acks rd r.rd)) ys (rl.drop (doneN r.n (ps.set i (p.acks rd r.rd)) rl)) (rl.take (doneN r.n (ps.set i (p.acks rd r.rd)) rl))) w1 hR hp hms hg0 hg1 hx1 ?_).mono ?_
  · intro ys w2 hR2 hO2 hk2
    have hH : HS X w1 w2 b pb r g (ps.set i (p.acks rd r.rd)) ys rl [] :=
      ⟨hR2, hO2, by rw [hdn]; exact World.ownsRow_nil _ _ _ _, hQ.keep hk2 (fun x hx => by simp at hx; rcases hx with e | e <;> rw [e]; exact .inl hbX; exact .inl hpX), hk2, hbX, hpX⟩
    refine (rreleased X b pb _ g _ ys rl w1 w2 hH (by simpa using hn) (by simpa using h7) hrl).mono ?_
    rintro e w3 ⟨d, s, rfl, hH3⟩
    exact ⟨rfl, r.ms, d, s, ys, hH3⟩
  · rintro e w' ⟨rfl, m, d, s, ys, hH⟩
    exact ⟨m, d, s, ys, rfl, hH⟩

set_option maxRecDepth 100000 in
set_option maxHeartbeats 8000000 in
theorem rstep_heardX (X0 : List Nat) (b pb i : Nat) (r : Rf) (g : Lg) (ps : List Pe) (rl : List Rq) (ix rd : Int) (ok : Bool) (d0 : Int) (c2 : Int) (ps2 : List Pe) (k : Nat) (w : World) (hT : RT w b pb r g ps rl) (hid : r.id = 0) (hn : r.n = (ps.length : Int)) (hi0 : 0 < i) (hi1 : i < ps.length) (hro : r.ro = 2) (hQX : QsAt w w.heap.size X0 r.rs rl) (hbX : b ∈ X0) (hpX : pb ∈ X0)
    (hH : HdAt b pb r g ps rl (amsg (i : Int) r.tm ix rd ok) c2 ps2 k) :
    Calls Tryd.prog 8 #[.pointer (some ⟨b, 0, none⟩), .agg (amsg (i : Int) r.tm ix rd ok).toArray, .int .i64 d0] w fun e w' => ∃ m d s ys, e = .returned (.agg ({ r with cm := c2, ms := m, dn := d, rs := s } : Rf).out) ∧
      RT w' b pb ({ r with cm := c2, rs := s } : Rf).bare g ps2 (rl.drop k) ∧ Ow w' w.heap.size m ys ∧ w'.ownsRow w.heap.size 98 2 (.slice d.1 d.2.1 d.2.2) d.2.1 (dns (rl.take k)) ∧ Keeps [b, pb] w w' ∧ QsAt w' w'.heap.size X0 s (rl.drop k) := by
  have hX := (Blk.fresh w 49 (amsg (i : Int) r.tm ix rd ok).toArray).alloc (.cells #[.slice none 0 0, .int .u64 0, .int .i64 0, .int .u64 0, .slice none 0 0, .slice none 0 0] 36)
  have hY := Blk.fresh_at (w.alloc (.cells (amsg (i : Int) r.tm ix rd ok).toArray 49)) 36 #[.slice none 0 0, .int .u64 0, .int .i64 0, .int .u64 0, .slice none 0 0, .slice none 0 0] (n := w.heap.size + 1) (by simp)
  have hk1 := ((Keeps.refl [] w).alloc (.cells (amsg (i : Int) r.tm ix rd ok).toArray 49)).alloc (.cells #[.slice none 0 0, .int .u64 0, .int .i64 0, .int .u64 0, .slice none 0 0, .slice none 0 0] 36)
  have hT1 := hT.keep0 hk1
  have hbw := hT.R.bN
  have HQ0 := Lib.hid (hQX.add (X' := (w.heap.size + 1) :: X0) (fun x hx => by rcases List.mem_cons.1 hx with e | e; exact .inr (by omega); exact .inl e))
  clear hQX
  have n1 : ¬ ((i : Int) < 0) := by omega
  have n2 : ¬ ((ps.length : Int) ≤ (i : Int)) := by omega
  have n3 : ((i : Int) == 0) = false := by simp; omega
  have n4 : ¬ ((ps.length) ≤ i) := by omega
  have HD := Lib.hid hH
  clear hH hT
  go_enter Tryd.func8, Tryd.ntmps8
  go_upto_region 1 with (fail)
  generalize World.alloc (World.alloc w _) _ = w1 at *
  generalize hye : w.heap.size + 1 = yb at *
  generalize hxe : w.heap.size = xb at *
  have hxy : xb ≠ yb := by omega
  have hby : b ≠ yb := by omega
  have hc := hT1.R.B.cell
  simp only [Rf.cells, hid, hn, hro] at hc
  have hcX := hX.cell
  simp only [amsg] at hcX
  have hlB := hT1.R.B.lt
  have hlX := hX.lt
  go_quiet (fail)
  have hX2 := hX.drewN nq
  have hY2 := hY.drewN nq
  have hT2 := hT1.keep0 ((Keeps.refl [] w1).drewN nq)
  have hk2 := hk1.drewN nq
  generalize World.drewN w1 nq = w2 at *
  clear hc hcX hlB hlX hX hY hT1 hk1
  have hc := hT2.R.B.cell
  simp only [Rf.cells, hid, hn, hro] at hc
  have hcX := hX2.cell
  simp only [amsg] at hcX
  have hlB := hT2.R.B.lt
  have hlX := hX2.lt
  go_upto_region 3 with (fail)
  go_quiet (fail)
  have hX3 := hX2.drewN nq
  have hY3 := hY2.drewN nq
  have hT3 := hT2.keep0 ((Keeps.refl [] w2).drewN nq)
  have hk3 := hk2.drewN nq
  generalize World.drewN w2 nq = w3 at *
  clear hc hcX hlB hlX hX2 hY2 hT2 hk2
  have hc := hT3.R.B.cell
  simp only [Rf.cells, hid, hn, hro] at hc
  have hcX := hX3.cell
  simp only [amsg] at hcX
  have hlB := hT3.R.B.lt
  have hlX := hX3.lt
  go_upto_region 9 with (fail)
  go_quiet (fail)
  have hX4 := hX3.drewN nq
  have hY4 := hY3.drewN nq
  have hT4 := hT3.keep0 ((Keeps.refl [] w3).drewN nq)
  have hk4 := hk3.drewN nq
  generalize World.drewN w3 nq = w4 at *
  clear hc hcX hlB hlX hX3 hY3 hT3 hk3
  have hc := hT4.R.B.cell
  simp only [Rf.cells, hid, hn, hro] at hc
  have hcX := hX4.cell
  simp only [amsg] at hcX
  have hlB := hT4.R.B.lt
  have hlX := hX4.lt
  have hs4 := hk4.size
  rw [hxe] at hs4
  have HZ := Lib.hid (HD.out (yb :: X0) w4 hT4.R ((HQ0.out.keep hk4 (fun _ hx => by cases hx)).grow hs4) (List.mem_cons_of_mem _ hbX) (List.mem_cons_of_mem _ hpX))
  clear HQ0
  go_wp2_with (first | (refine wpList_load_agg rfl 49 _ rfl xb 0 23 rfl 49 _ _ hX4 Tryd.underlying49 rfl Tryd.sizeM (by simp [amsg]) _ rfl ?_) | (go_at_call 27; fail))
  refine HZ.out.mono ?_
  rintro e w5 ⟨m, d, s, ys, rfl, hH5⟩
  have hyw := hY4.lt
  have hY5 := hY4.keep hH5.K (by simp; have := hT4.R.P; exact ⟨fun e => hby e.symm, fun e => by have := hT4.R.P.ne hY4 (by decide); exact this e.symm⟩)
  have hk5 := hk4.of_nil.trans hH5.K
  have hms4 := hT4.ms
  clear HZ HD hc hcX hlB hlX hX4 hY4 hT4 hk4
  obtain ⟨r2, hr2⟩ : ∃ r2 : Rf, r2 = { r with cm := c2, ms := m, dn := d, rs := s } := ⟨_, rfl⟩
  rw [← hr2] at hH5
  have hms2 : r2.bare = ({ r with cm := c2, rs := s } : Rf).bare := by rw [hr2]; rfl
  have HR2 := Lib.hid (And.intro hr2 hms2)
  clear hr2 hms2 hms4
  have hB5 := hH5.R.B
  have hbp := hH5.R.ne
  have hl := hB5.lt
  go_wp2_with fail
  refine (rready b r2 w5 hB5).mono ?_
  rintro e w6 ⟨rfl, hB6, hk6⟩
  have hY6 := hY5.keep hk6 (by simpa using fun e => hby e.symm)
  have hP6 := hH5.R.P.keep hk6 (by simpa using fun e => hbp e.symm)
  have hlgb : r2.lg ≠ b := fun e => by have := hH5.R.L.notX; simp [e] at this
  have hL6 := hH5.R.L.at.keepB hk6 hB5 r2.nostr hlgb
  have hO6 := own_keep hH5.O hk6 (fun x hx => by have := own_lt hH5.O x hx; have := hH5.R.bN; simp; omega)
  have hD6 := own_keep hH5.D hk6 (fun x hx => by have := own_lt hH5.D x hx; have := hH5.R.bN; simp; omega)
  have hQ6 := hH5.Q.keep hk6 (fun x hx => .inl (by simp at hx; rw [hx]; exact List.mem_cons_of_mem _ hbX))
  have hk06 := hk5.trans (hk6.mono (L' := [b, pb]) (by intro x hx; simp at hx; simp [hx]))
  have hps6 : r2.bare.ps = (some ⟨pb, 0, none⟩, ps2.length, ps2.length) := hH5.R.hps
  have hfin : ∀ (w7 : World) (cs : Array Value), Blk w6 yb 36 cs → (∀ v ∈ cs.toList, ∀ s, v ≠ Value.string s) → Keeps [yb] w6 w7 → RT w7 b pb r2.bare g ps2 (rl.drop k) ∧ Ow w7 xb r2.ms ys ∧ w7.ownsRow xb 98 2 (.slice r2.dn.1 r2.dn.2.1 r2.dn.2.2) r2.dn.2.1 (dns (rl.take k)) ∧ Keeps [b, pb] w w7 ∧ QsAt w7 w7.heap.size X0 r2.rs (rl.drop k) := by
    intro w7 cs hYc hcs hk7
    have hB7 := hB6.keep hk7 (by simpa using hby)
    have hP7 := hP6.keep hk7 (by simpa using hP6.ne hYc (by decide))
    obtain ⟨_, _, hLb, _, _⟩ := hL6
    have hlgy : r2.lg ≠ yb := hLb.ne hYc (by decide)
    have hL7 := LogAt.keepB (by exact ⟨_, _, hLb, by assumption, by assumption⟩) hk7 hYc hcs hlgy
    have hQ7 : QsAt w7 w7.heap.size X0 r2.rs (rl.drop k) := ((hQ6.keep hk7 (fun x hx => .inl (by simp at hx; simp [hx]))).add (fun x hx => .inl (List.mem_cons_of_mem _ hx))).grow (by have := hk6.size; have := hk7.size; have := hH5.R.size; omega)
    refine ⟨⟨RC.of hB7 hP7 hL7 hps6, ?_, rfl, rfl, rfl⟩, ?_, ?_, ?_, hQ7⟩
    · exact hQ7.add (fun x hx => by simp at hx; rcases hx with e | e <;> rw [e]; exact .inl hbX; exact .inl hpX)
    · exact own_older (own_keep hO6 hk7 (fun x hx => by have := own_lt hO6 x hx; simp; omega)) hs4
    · exact own_older (own_keep hD6 hk7 (fun x hx => by have := own_lt hD6 x hx; simp; omega)) hs4
    · exact hk06.step hk7 (fun x hx => .inr (by simp at hx; omega))
  have HF := Lib.hid hfin
  clear hfin hP6 hL6 hO6 hD6 hQ6 hk06 hps6 hH5 hB5 hl hlgb hk5
  obtain ⟨m1, m2, m3, y1, y2, y3, n1, n2, n3, p1, p2, p3, ho⟩ := Rf.out6 r2
  have HO := Lib.hid ho
  rw [ho]
  clear ho
  have hcY := hY6.cell
  have hlY := hY6.lt
  have hfY := hY6.free
  go_wp2_with fail
  have hY7 := put6 hY6 (.slice m1 m2 m3) (.int .u64 y1) (.int .i64 y2) (.int .u64 y3) (.slice n1 n2 n3) (.slice p1 p2 p3)
  generalize World.setCell (World.setCell _ _ _) ⟨yb, 5, none⟩ _ = w7 at *
  obtain ⟨f1, f2, f3, f4, f5⟩ := HF.out w7 _ hY6 (by intro v hv s e; subst e; simp at hv) hY7.2
  refine bodyPost_ret (results_c rfl rfl hY7.1 Tryd.underlying36 rfl Tryd.sizeRE) rfl ⟨m, d, s, ys, by rw [← HR2.out.1, HO.out], by rw [← HR2.out.2]; exact f1, ?_, ?_, f4, by rw [HR2.out.1] at f5; exact f5⟩
  · rw [HR2.out.1, ← hxe] at f2
    exact f2
  · rw [HR2.out.1, ← hxe] at f3
    exact f3

theorem rstep_heard (b pb i : Nat) (r : Rf) (g : Lg) (ps : List Pe) (rl : List Rq) (ix rd : Int) (ok : Bool) (d0 : Int) (c2 : Int) (ps2 : List Pe) (k : Nat) (w : World) (hT : RT w b pb r g ps rl) (hid : r.id = 0) (hn : r.n = (ps.length : Int)) (hi0 : 0 < i) (hi1 : i < ps.length) (hro : r.ro = 2)
    (hH : HdAt b pb r g ps rl (amsg (i : Int) r.tm ix rd ok) c2 ps2 k) :
    Calls Tryd.prog 8 #[.pointer (some ⟨b, 0, none⟩), .agg (amsg (i : Int) r.tm ix rd ok).toArray, .int .i64 d0] w fun e w' => ∃ m d s ys, e = .returned (.agg ({ r with cm := c2, ms := m, dn := d, rs := s } : Rf).out) ∧
      RT w' b pb ({ r with cm := c2, rs := s } : Rf).bare g ps2 (rl.drop k) ∧ Ow w' w.heap.size m ys ∧ w'.ownsRow w.heap.size 98 2 (.slice d.1 d.2.1 d.2.2) d.2.1 (dns (rl.take k)) ∧ Keeps [b, pb] w w' := by
  refine (rstep_heardX [b, pb] b pb i r g ps rl ix rd ok d0 c2 ps2 k w hT hid hn hi0 hi1 hro hT.Q (by simp) (by simp) hH).mono ?_
  rintro e w' ⟨m, d, s, ys, h1, h2, h3, h4, h5, _⟩
  exact ⟨m, d, s, ys, h1, h2, h3, h4, h5⟩
end Go.Proofs.YtdeaelbelcjhcaaDoor
